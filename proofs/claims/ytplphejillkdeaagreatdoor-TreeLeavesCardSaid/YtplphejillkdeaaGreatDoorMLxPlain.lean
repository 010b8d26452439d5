/- The tokens of a text, in plain Lean: no program in sight. -/
import Derived.Test.YtplphejillkdeaaGreatDoorMPlainC
namespace Go.Proofs.YtplphejillkdeaaGreatDoor
set_option linter.unusedVariables false

def digB (c : UInt8) : Bool := decide (48 ≤ c.toNat) && decide (c.toNat ≤ 57)
def lowB (c : UInt8) : Bool := decide (97 ≤ c.toNat) && decide (c.toNat ≤ 122)
def uppB (c : UInt8) : Bool := decide (65 ≤ c.toNat) && decide (c.toNat ≤ 90)
def afB (c : UInt8) : Bool := decide (97 ≤ c.toNat) && decide (c.toNat ≤ 102)
def aFB (c : UInt8) : Bool := decide (65 ≤ c.toNat) && decide (c.toNat ≤ 70)
/-- The first byte of a name. -/
def letB (c : UInt8) : Bool := lowB c || (uppB c || decide (c.toNat = 95))
/-- A byte of a name. -/
def wordB (c : UInt8) : Bool := letB c || digB c
def hexB (c : UInt8) : Bool := digB c || (afB c || aFB c)
def blkB (c : UInt8) : Bool := decide (c.toNat = 32) || (decide (c.toNat = 9) || decide (c.toNat = 13))
def notNl (c : UInt8) : Bool := !decide (c.toNat = 10)

/-- How many bytes ahead satisfy a test. -/
def spanN (p : UInt8 → Bool) (l : List UInt8) : Nat := (l.takeWhile p).length
theorem spanN_nil (p : UInt8 → Bool) : spanN p [] = 0 := rfl
theorem spanN_yes {p : UInt8 → Bool} {c : UInt8} {l : List UInt8} (h : p c = true) : spanN p (c :: l) = spanN p l + 1 := by
  unfold spanN; rw [List.takeWhile_cons_of_pos h]; rfl
theorem spanN_no {p : UInt8 → Bool} {c : UInt8} {l : List UInt8} (h : p c = false) : spanN p (c :: l) = 0 := by
  unfold spanN; rw [List.takeWhile_cons_of_neg (by rw [h]; simp)]; rfl
theorem spanN_le (p : UInt8 → Bool) (l : List UInt8) : spanN p l ≤ l.length := (List.takeWhile_sublist p (l := l)).length_le
theorem take_span (p : UInt8 → Bool) (l : List UInt8) : l.take (spanN p l) = l.takeWhile p := ((List.prefix_iff_eq_take).1 (List.takeWhile_prefix p)).symm

/-- The blanks and remarks ahead: how many bytes, how many line feeds. -/
def gapN (l : List UInt8) : Nat × Nat :=
  match l with
  | [] => (0, 0)
  | c :: t =>
    if c.toNat = 10 then ((gapN t).1 + 1, (gapN t).2 + 1)
    else if blkB c then ((gapN t).1 + 1, (gapN t).2)
    else if c.toNat = 45 ∧ (t.head?.map UInt8.toNat) = some 45 then ((gapN (t.drop (spanN notNl t))).1 + (1 + spanN notNl t), (gapN (t.drop (spanN notNl t))).2)
    else (0, 0)
termination_by l.length
decreasing_by all_goals (simp; try omega)
theorem gapN_nil : gapN [] = (0, 0) := by rw [gapN]
theorem gapN_nl {c : UInt8} {t : List UInt8} (h : c.toNat = 10) : gapN (c :: t) = ((gapN t).1 + 1, (gapN t).2 + 1) := by rw [gapN, if_pos h]
theorem gapN_blank {c : UInt8} {t : List UInt8} (h0 : c.toNat ≠ 10) (h : blkB c = true) : gapN (c :: t) = ((gapN t).1 + 1, (gapN t).2) := by rw [gapN, if_neg h0, if_pos h]
theorem gapN_rem {c : UInt8} {t : List UInt8} (h : c.toNat = 45) (h2 : (t.head?.map UInt8.toNat) = some 45) : gapN (c :: t) = ((gapN (t.drop (spanN notNl t))).1 + (1 + spanN notNl t), (gapN (t.drop (spanN notNl t))).2) := by
  have hb : blkB c = false := by unfold blkB; simp; omega
  rw [gapN, if_neg (by omega), if_neg (by rw [hb]; simp), if_pos ⟨h, h2⟩]
theorem gapN_stop {c : UInt8} {t : List UInt8} (h0 : c.toNat ≠ 10) (h1 : blkB c = false) (h2 : ¬ (c.toNat = 45 ∧ (t.head?.map UInt8.toNat) = some 45)) : gapN (c :: t) = (0, 0) := by
  rw [gapN, if_neg h0, if_neg (by rw [h1]; simp), if_neg h2]

/-- The value of a hexadecimal digit. -/
def hexV (c : UInt8) : Nat := if c.toNat < 65 then c.toNat - 48 else if c.toNat < 97 then c.toNat - 65 + 10 else c.toNat - 97 + 10
def valN (b : Nat) (l : List UInt8) : Nat := l.foldl (fun n c => n * b + hexV c) 0

/-- The escape behind a backslash: error, byte, how many bytes. -/
def escT (t : List UInt8) : Int × Nat × Nat :=
  match t with
  | [] => (4, 0, 0)
  | c :: u =>
    if c.toNat = 110 then (0, 10, 1)
    else if c.toNat = 116 then (0, 9, 1)
    else if c.toNat = 92 ∨ c.toNat = 39 ∨ c.toNat = 34 then (0, c.toNat, 1)
    else if c.toNat = 120 then (if 2 ≤ spanN hexB u then (0, valN 16 (u.take 2), 3) else (4, 0, 0))
    else if digB c then (if 255 < valN 10 (t.take (min (spanN digB t) 3)) then (6, 0, 0) else (0, valN 10 (t.take (min (spanN digB t) 3)), min (spanN digB t) 3))
    else (4, 0, 0)

/-- The literal behind its first quote q: error, string, how many bytes with the last quote; n bytes are read. -/
def litT (q : UInt8) (l : List UInt8) (n : Nat) : Int × List UInt8 × Nat :=
  match l with
  | [] => (4, [], 0)
  | c :: t =>
    if c.toNat = 10 then (4, [], 0)
    else if c = q then (0, [], 1)
    else if c.toNat = 92 then
      (if (escT t).1 = 0 then
        (if n = 4096 then (3, [], 0)
        else if (litT q (t.drop (escT t).2.2) (n + 1)).1 = 0 then (0, UInt8.ofNat (escT t).2.1 :: (litT q (t.drop (escT t).2.2) (n + 1)).2.1, (litT q (t.drop (escT t).2.2) (n + 1)).2.2 + (1 + (escT t).2.2))
        else ((litT q (t.drop (escT t).2.2) (n + 1)).1, [], 0))
      else ((escT t).1, [], 0))
    else if n = 4096 then (3, [], 0)
    else if (litT q t (n + 1)).1 = 0 then (0, c :: (litT q t (n + 1)).2.1, (litT q t (n + 1)).2.2 + 1)
    else ((litT q t (n + 1)).1, [], 0)
termination_by l.length
decreasing_by all_goals (simp; try omega)

/-- The symbols, in the order in which they are tried. -/
def syms : List (List UInt8) := [ [46, 46, 46], [47, 47], [60, 60], [62, 62], [61, 61], [126, 61], [60, 61], [62, 61], [58, 58], [46, 46], [43], [45], [42], [47], [37], [94], [35], [38], [124], [126], [60], [62], [61], [40], [41], [123], [125], [91], [93], [59], [58], [44], [46] ]
/-- The keywords. -/
def keys : List (List UInt8) := [ [97, 110, 100], [98, 114, 101, 97, 107], [100, 111], [101, 108, 115, 101], [101, 108, 115, 101, 105, 102], [101, 110, 100], [102, 97, 108, 115, 101], [102, 111, 114], [102, 117, 110, 99, 116, 105, 111, 110], [103, 111, 116, 111], [105, 102], [105, 110], [108, 111, 99, 97, 108], [110, 105, 108], [110, 111, 116], [111, 114], [114, 101, 112, 101, 97, 116], [114, 101, 116, 117, 114, 110], [116, 104, 101, 110], [116, 114, 117, 101], [117, 110, 116, 105, 108], [119, 104, 105, 108, 101] ]
def keyB (w : List UInt8) : Bool := keys.contains w

/-- A token ahead: error, kind, text, how many bytes. -/
structure TokR where
  e : Int
  k : Int
  x : List UInt8
  n : Nat
def errR (e : Int) : TokR := ⟨e, 0, [], 0⟩
def wordT (r : List UInt8) : TokR := if 40 < spanN wordB r then errR 3 else ⟨0, if keyB (r.take (spanN wordB r)) then 2 else 1, r.take (spanN wordB r), spanN wordB r⟩
/-- Whether a byte of a name stands at an index. -/
def wordAt (r : List UInt8) (i : Nat) : Bool := match r[i]? with | none => false | some c => wordB c
def numberT (r : List UInt8) : TokR :=
  if (scanL r 0).2.2.2 = 0 then (if wordAt r (scanL r 0).2.2.1.toNat then errR 4 else ⟨0, 3, r.take (scanL r 0).2.2.1.toNat, (scanL r 0).2.2.1.toNat⟩) else errR (scanL r 0).2.2.2
def stringT (c : UInt8) (t : List UInt8) : TokR := if (litT c t 0).1 = 0 then ⟨0, 4, (litT c t 0).2.1, (litT c t 0).2.2 + 1⟩ else errR (litT c t 0).1
def symbolT (r : List UInt8) : TokR := match syms.find? (fun s => s.isPrefixOf r) with | some s => ⟨0, 5, s, s.length⟩ | none => errR 4
def tokT (r : List UInt8) : TokR :=
  match r with
  | [] => errR 4
  | c :: t => if letB c then wordT r else if digB c then numberT r else if c.toNat = 39 ∨ c.toNat = 34 then stringT c t else symbolT r

/-- A token. -/
structure Tk where
  k : Int
  x : List UInt8
  ln : Nat
  at_ : Nat
/-- The tokens of a text that begins at an index and in a line; or the line and the error. -/
def scanA (r : List UInt8) (i ln : Nat) : List Tk × Nat × Int :=
  if h : r.drop (gapN r).1 = [] then ([], 0, 0)
  else if (tokT (r.drop (gapN r).1)).e = 0 then
    (if (scanA ((r.drop (gapN r).1).drop (max 1 (tokT (r.drop (gapN r).1)).n)) (i + (gapN r).1 + (tokT (r.drop (gapN r).1)).n) (ln + (gapN r).2)).2.2 = 0 then
      (⟨(tokT (r.drop (gapN r).1)).k, (tokT (r.drop (gapN r).1)).x, ln + (gapN r).2, i + (gapN r).1⟩ :: (scanA ((r.drop (gapN r).1).drop (max 1 (tokT (r.drop (gapN r).1)).n)) (i + (gapN r).1 + (tokT (r.drop (gapN r).1)).n) (ln + (gapN r).2)).1, 0, 0)
    else ([], (scanA ((r.drop (gapN r).1).drop (max 1 (tokT (r.drop (gapN r).1)).n)) (i + (gapN r).1 + (tokT (r.drop (gapN r).1)).n) (ln + (gapN r).2)).2.1, (scanA ((r.drop (gapN r).1).drop (max 1 (tokT (r.drop (gapN r).1)).n)) (i + (gapN r).1 + (tokT (r.drop (gapN r).1)).n) (ln + (gapN r).2)).2.2))
  else ([], ln + (gapN r).2, (tokT (r.drop (gapN r).1)).e)
termination_by r.length
decreasing_by all_goals (have := List.length_pos_iff.2 h; simp at this ⊢; omega)
end Go.Proofs.YtplphejillkdeaaGreatDoor
