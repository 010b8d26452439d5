/- Formats in plain Lean: their events, their pieces, what they print. No program in sight. -/
import Derived.Test.YtemlijadhdejeaaGreatDoorMLxP
namespace Go.Proofs.YtemlijadhdejeaaGreatDoor
set_option linter.unusedVariables false

/-- A part of a format: a text (v = 0), or a directive. -/
structure Pc where
  t : List UInt8
  v : Nat
  mi : Bool
  ze : Bool
  pl : Bool
  w : Nat
  n : Int
def txtP (t : List UInt8) : Pc := ⟨t, 0, false, false, false, 0, 0⟩
def flagB (c : UInt8) : Bool := decide (c.toNat = 45) || (decide (c.toNat = 48) || decide (c.toNat = 43))
def verbs : List UInt8 := [100, 120, 88, 111, 102, 115, 99, 113, 103]
def verbB (c : UInt8) : Bool := verbs.contains c
/-- At most two digits ahead: their number, how many there are. -/
def twoD (l : List UInt8) : Nat × Nat :=
  match l with
  | [] => (0, 0)
  | c :: t => if digB c then (match t with | [] => (c.toNat - 48, 1) | d :: _ => if digB d then ((c.toNat - 48) * 10 + (d.toNat - 48), 2) else (c.toNat - 48, 1)) else (0, 0)
/-- A verb ahead ends a directive; n bytes are read. -/
def verbT (f : List UInt8) (w : Nat) (p : Int) (r : List UInt8) (n : Nat) : Option (Pc × Nat) :=
  match r with
  | [] => none
  | c :: _ => if verbB c then some (⟨[], c.toNat, f.contains 45, f.contains 48, f.contains 43, w, p⟩, n + 1) else none
/-- The places behind the width. -/
def placeT (f : List UInt8) (w : Nat) (r : List UInt8) (n : Nat) : Option (Pc × Nat) :=
  match r with
  | [] => none
  | c :: t => if c.toNat = 46 then (if (twoD t).2 = 0 then none else if 12 < (twoD t).1 then none else verbT f w ((twoD t).1 : Int) (t.drop (twoD t).2) (n + 1 + (twoD t).2)) else verbT f w (-1) (c :: t) n
/-- The directive behind a percent sign: it, and how many bytes. -/
def dirT (l : List UInt8) : Option (Pc × Nat) :=
  placeT (l.take (spanN flagB l)) (twoD (l.drop (spanN flagB l))).1 ((l.drop (spanN flagB l)).drop (twoD (l.drop (spanN flagB l))).2) (spanN flagB l + (twoD (l.drop (spanN flagB l))).2)

theorem twoD_le (l : List UInt8) : (twoD l).2 ≤ l.length := by
  unfold twoD
  split
  · simp
  · split
    · split
      · simp
      · split <;> simp
    · simp
theorem twoD_bd (l : List UInt8) : (twoD l).1 ≤ 99 ∧ (twoD l).2 ≤ 2 := by
  have hd : ∀ c : UInt8, digB c = true → c.toNat - 48 ≤ 9 := fun c h => by unfold digB at h; simp at h; omega
  unfold twoD
  split
  · simp
  · rename_i c t
    split
    · rename_i h
      have := hd c h
      split
      · simp; omega
      · rename_i d u
        split
        · rename_i h2
          have := hd d h2
          simp; omega
        · simp; omega
    · simp
/-- Two digits are the same with something behind a byte that is there. -/
theorem twoD_app {l : List UInt8} (h : (twoD l).2 < l.length) (b : List UInt8) : twoD (l ++ b) = twoD l := by
  match l with
  | [] => simp at h
  | [c] =>
    by_cases hc : digB c = true
    · simp [twoD, hc] at h
    · simp [twoD, hc]
  | c :: d :: t => rfl
theorem verbT_app {f : List UInt8} {w : Nat} {p : Int} {r : List UInt8} {n : Nat} {x : Pc × Nat} (h : verbT f w p r n = some x) (b : List UInt8) : verbT f w p (r ++ b) n = some x := by
  cases r with
  | nil => cases h
  | cons c t => exact h
theorem verbT_ok {f : List UInt8} {w : Nat} {p : Int} {r : List UInt8} {n : Nat} {x : Pc × Nat} (h : verbT f w p r n = some x) : x.2 = n + 1 ∧ 1 ≤ r.length ∧ x.1.v ≠ 0 ∧ x.1.t = [] ∧ x.1.w = w ∧ x.1.n = p ∧ ∃ c, verbB c = true ∧ x.1.v = c.toNat := by
  cases r with
  | nil => cases h
  | cons c t =>
    unfold verbT at h
    simp only [] at h
    split at h
    · rename_i hv
      cases h
      refine ⟨rfl, by simp, ?_, rfl, rfl, rfl, c, hv, rfl⟩
      have : ∀ c ∈ verbs, c.toNat ≠ 0 := by decide
      exact this c (by simpa [verbB] using hv)
    · cases h
theorem placeT_ok {f : List UInt8} {w : Nat} {r : List UInt8} {n : Nat} {x : Pc × Nat} (h : placeT f w r n = some x) : n + 1 ≤ x.2 ∧ x.2 ≤ n + r.length ∧ x.1.v ≠ 0 ∧ x.1.t = [] ∧ x.1.w = w ∧ -1 ≤ x.1.n ∧ x.1.n ≤ 12 ∧ ∃ c, verbB c = true ∧ x.1.v = c.toNat := by
  cases r with
  | nil => cases h
  | cons c t =>
    unfold placeT at h
    simp only [] at h
    have hl := twoD_le t
    split at h
    · split at h
      · cases h
      · split at h
        · cases h
        · obtain ⟨h1, h2, h3, h4, h5, h6, h7⟩ := verbT_ok h
          rw [List.length_drop] at h2
          refine ⟨by omega, by simp only [List.length_cons]; omega, h3, h4, h5, by rw [h6]; omega, by rw [h6]; omega, h7⟩
    · obtain ⟨h1, h2, h3, h4, h5, h6, h7⟩ := verbT_ok h
      refine ⟨by omega, by simp only [List.length_cons]; omega, h3, h4, h5, by rw [h6]; omega, by rw [h6]; omega, h7⟩
theorem dirT_ok {l : List UInt8} {x : Pc × Nat} (h : dirT l = some x) : 1 ≤ x.2 ∧ x.2 ≤ l.length ∧ x.1.v ≠ 0 ∧ x.1.t = [] ∧ x.1.w ≤ 99 ∧ -1 ≤ x.1.n ∧ x.1.n ≤ 12 ∧ ∃ c, verbB c = true ∧ x.1.v = c.toNat := by
  unfold dirT at h
  obtain ⟨h1, h2, h3, h4, h5, h6, h7, h8⟩ := placeT_ok h
  have hs := spanN_le flagB l
  have ht := twoD_le (l.drop (spanN flagB l))
  have hb := (twoD_bd (l.drop (spanN flagB l))).1
  rw [List.length_drop] at ht
  rw [List.length_drop, List.length_drop] at h2
  exact ⟨by omega, by omega, h3, h4, by rw [h5]; exact hb, h6, h7, h8⟩
theorem placeT_app {f : List UInt8} {w : Nat} {r : List UInt8} {n : Nat} {x : Pc × Nat} (h : placeT f w r n = some x) (b : List UInt8) : placeT f w (r ++ b) n = some x := by
  cases r with
  | nil => cases h
  | cons c t =>
    rw [List.cons_append]
    unfold placeT at h ⊢
    simp only [] at h ⊢
    split at h
    · rename_i hc
      rw [if_pos hc]
      split at h
      · cases h
      · split at h
        · cases h
        · rename_i h0 h12
          have hv := (verbT_ok h).2.1
          rw [List.length_drop] at hv
          have e := twoD_app (l := t) (by omega) b
          rw [e, if_neg h0, if_neg h12, List.drop_append_of_le_length (by omega)]
          exact verbT_app h b
    · rename_i hc
      rw [if_neg hc]
      exact verbT_app (r := c :: t) h b
theorem span_stop {p : UInt8 → Bool} {l : List UInt8} (h : spanN p l < l.length) (b : List UInt8) : spanN p (l ++ b) = spanN p l := by
  induction l with
  | nil => simp at h
  | cons c l ih =>
    cases hc : p c
    · rw [List.cons_append, spanN_no hc, spanN_no hc]
    · rw [spanN_yes hc] at h
      rw [List.cons_append, spanN_yes hc, spanN_yes hc, ih (by simpa using h)]
theorem dirT_app {l : List UInt8} {x : Pc × Nat} (h : dirT l = some x) (b : List UInt8) : dirT (l ++ b) = some x := by
  have hs := spanN_le flagB l
  have ht := twoD_le (l.drop (spanN flagB l))
  rw [List.length_drop] at ht
  have hp : (twoD (l.drop (spanN flagB l))).2 < (l.drop (spanN flagB l)).length := by
    have h1 := h
    unfold dirT at h1
    have h2 := (placeT_ok h1).1
    have h3 := (placeT_ok h1).2.1
    rw [List.length_drop] at h3
    omega
  have hsl : spanN flagB l < l.length := by rw [List.length_drop] at hp; omega
  unfold dirT at h ⊢
  rw [span_stop hsl, List.take_append_of_le_length hs, List.drop_append_of_le_length hs, twoD_app hp, List.drop_append_of_le_length (by omega)]
  exact placeT_app h b

/-- What a format consists of: bytes and directives. -/
inductive Ev where
  | ch (c : UInt8)
  | dr (p : Pc)
def evs (l : List UInt8) : Option (List Ev) :=
  match l with
  | [] => some []
  | c :: t =>
    if c.toNat = 37 then
      (if (t.head?.map UInt8.toNat) = some 37 then (evs t.tail).map (Ev.ch 37 :: ·)
      else match h : dirT t with
        | none => none
        | some x => (evs (t.drop (max 1 x.2))).map (Ev.dr x.1 :: ·))
    else (evs t).map (Ev.ch c :: ·)
termination_by l.length
decreasing_by all_goals (simp; try omega)
theorem evs_nil : evs [] = some [] := by rw [evs]
theorem evs_ch {c : UInt8} {t : List UInt8} (h : c.toNat ≠ 37) : evs (c :: t) = (evs t).map (Ev.ch c :: ·) := by rw [evs, if_neg h]
theorem evs_two (t : List UInt8) : evs (37 :: 37 :: t) = (evs t).map (Ev.ch 37 :: ·) := by rw [evs, if_pos (by decide), if_pos (by rfl)]; rfl
theorem evs_bad {t : List UInt8} (h : (t.head?.map UInt8.toNat) ≠ some 37) (hd : dirT t = none) : evs (37 :: t) = none := by
  rw [evs, if_pos (by decide), if_neg h]
  split
  · rfl
  · rename_i x hx; rw [hd] at hx; cases hx
theorem evs_dir {t : List UInt8} {x : Pc × Nat} (h : (t.head?.map UInt8.toNat) ≠ some 37) (hd : dirT t = some x) : evs (37 :: t) = (evs (t.drop x.2)).map (Ev.dr x.1 :: ·) := by
  have h1 := (dirT_ok hd).1
  rw [evs, if_pos (by decide), if_neg h]
  split
  · rename_i hx; rw [hd] at hx; cases hx
  · rename_i y hx
    rw [hd] at hx
    cases hx
    rw [show max 1 x.2 = x.2 by omega]
theorem c37 {c : UInt8} (h : c.toNat = 37) : c = 37 := UInt8.toNat_inj.1 h
/-- Two formats, one behind the other. -/
theorem evs_app (b : List UInt8) (m : Nat) : ∀ (l : List UInt8) (E : List Ev), l.length ≤ m → evs l = some E → evs (l ++ b) = (evs b).map (E ++ ·) := by
  have hmap : ∀ (x : Ev) (E : List Ev) (o : Option (List Ev)), (o.map (E ++ ·)).map (x :: ·) = o.map ((x :: E) ++ ·) := fun x E o => by cases o <;> rfl
  induction m with
  | zero =>
    intro l E h he
    obtain rfl : l = [] := List.eq_nil_of_length_eq_zero (by omega)
    rw [evs_nil] at he
    cases he
    rw [List.nil_append]
    cases evs b <;> rfl
  | succ m ih =>
    intro l E h he
    cases l with
    | nil =>
      rw [evs_nil] at he
      cases he
      rw [List.nil_append]
      cases evs b <;> rfl
    | cons c t =>
      simp only [List.length_cons] at h
      by_cases hc : c.toNat = 37
      · obtain rfl := c37 hc
        by_cases ht : (t.head?.map UInt8.toNat) = some 37
        · cases t with
          | nil => simp at ht
          | cons d u =>
            simp at ht
            obtain rfl := c37 ht
            rw [evs_two] at he
            simp only [List.length_cons] at h
            cases hu : evs u with
            | none => rw [hu] at he; cases he
            | some F =>
              rw [hu] at he
              cases he
              rw [List.cons_append, List.cons_append, evs_two, ih u F (by omega) hu]
              exact hmap _ _ _
        · cases hd : dirT t with
          | none => rw [evs_bad ht hd] at he; cases he
          | some x =>
            rw [evs_dir ht hd] at he
            have hok := dirT_ok hd
            have ht2 : ((t ++ b).head?.map UInt8.toNat) ≠ some 37 := by
              cases t with
              | nil => have := hok.2.1; simp at this; omega
              | cons d u => simpa using ht
            cases hu : evs (t.drop x.2) with
            | none => rw [hu] at he; cases he
            | some F =>
              rw [hu] at he
              cases he
              rw [List.cons_append, evs_dir ht2 (dirT_app hd b), List.drop_append_of_le_length hok.2.1, ih _ F (by rw [List.length_drop]; omega) hu]
              exact hmap _ _ _
      · rw [evs_ch hc] at he
        cases hu : evs t with
        | none => rw [hu] at he; cases he
        | some F =>
          rw [hu] at he
          cases he
          rw [List.cons_append, evs_ch hc, ih t F (by omega) hu]
          exact hmap _ _ _

/-- The text that stands before a directive or the end. -/
def flushP (a : List UInt8) : List Pc := if a = [] then [] else [txtP a]
/-- The parts of a format. -/
def grp : List Ev → List UInt8 → List Pc
  | [], a => flushP a
  | .ch c :: E, a => grp E (a ++ [c])
  | .dr p :: E, a => flushP a ++ p :: grp E []
def dirsN : List Ev → Nat
  | [] => 0
  | .ch _ :: E => dirsN E
  | .dr _ :: E => dirsN E + 1
theorem dirsN_app (E F : List Ev) : dirsN (E ++ F) = dirsN E + dirsN F := by
  induction E with
  | nil => simp [dirsN]
  | cons x E ih => cases x <;> simp [dirsN, ih] ; omega

section
variable {V : Type} (A : Pc → V → Option (List UInt8))
/-- What events print: text, argument that is wrong, error. -/
def runE (l : List V) : List Ev → Nat → List UInt8 → List UInt8 × Nat × Int
  | [], _, out => (out, 0, 0)
  | .ch c :: E, k, out => runE l E k (out ++ [c])
  | .dr p :: E, k, out => match l[k]? with
    | none => ([], k + 1, 18)
    | some v => match A p v with
      | none => ([], k + 1, 8)
      | some s => runE l E (k + 1) (out ++ s)
/-- What parts print. -/
def runP (l : List V) : List Pc → Nat → List UInt8 → List UInt8 × Nat × Int
  | [], _, out => (out, 0, 0)
  | p :: P, k, out => if p.v = 0 then runP l P k (out ++ p.t) else match l[k]? with
    | none => ([], k + 1, 18)
    | some v => match A p v with
      | none => ([], k + 1, 8)
      | some s => runP l P (k + 1) (out ++ s)
def endF (r : List UInt8 × Nat × Int) : List UInt8 × Nat × Int := if r.2.2 = 0 ∧ 4096 < r.1.length then ([], 0, 14) else r
/-- What a format prints. -/
def fmtA (f : List UInt8) (l : List V) : List UInt8 × Nat × Int :=
  match evs f with
  | none => ([], 0, 4)
  | some E => endF (runE A l E 0 [])
/-- Events whose directives are directives. -/
def dirsOk (E : List Ev) : Prop := ∀ p, Ev.dr p ∈ E → p.v ≠ 0
theorem runP_flush (l : List V) (P : List Pc) (k : Nat) (out a : List UInt8) : runP A l (flushP a ++ P) k out = runP A l P k (out ++ a) := by
  unfold flushP
  split
  · rename_i h; rw [h]; simp
  · simp [runP, txtP]
theorem runP_grp (l : List V) : ∀ (E : List Ev) (k : Nat) (out a : List UInt8), dirsOk E → runP A l (grp E a) k out = runE A l E k (out ++ a)
  | [], k, out, a, _ => by
    have := runP_flush A l [] k out a
    rw [List.append_nil] at this
    rw [grp, this]; rfl
  | .ch c :: E, k, out, a, h => by
    rw [grp, runP_grp l E k out (a ++ [c]) (fun p hp => h p (List.mem_cons_of_mem _ hp)), runE, List.append_assoc]
  | .dr p :: E, k, out, a, h => by
    rw [grp, runP_flush, runP, if_neg (h p (List.mem_cons_self)), runE]
    cases l[k]? with
    | none => rfl
    | some v =>
      simp only []
      cases A p v with
      | none => rfl
      | some s =>
        simp only []
        rw [runP_grp l E (k + 1) (out ++ a ++ s) [] (fun q hq => h q (List.mem_cons_of_mem _ hq)), List.append_nil]
theorem evs_dirs (m : Nat) : ∀ (l : List UInt8) (E : List Ev), l.length ≤ m → evs l = some E → dirsOk E ∧ E.length ≤ l.length := by
  induction m with
  | zero =>
    intro l E h he
    obtain rfl : l = [] := List.eq_nil_of_length_eq_zero (by omega)
    rw [evs_nil] at he
    cases he
    exact ⟨(fun p hp => by cases hp), by simp⟩
  | succ m ih =>
    intro l E h he
    cases l with
    | nil =>
      rw [evs_nil] at he
      cases he
      exact ⟨(fun p hp => by cases hp), by simp⟩
    | cons c t =>
      simp only [List.length_cons] at h
      have hch : ∀ (d : UInt8) (F : List Ev) (n : Nat), dirsOk F ∧ F.length ≤ n → dirsOk (Ev.ch d :: F) ∧ (Ev.ch d :: F).length ≤ n + 1 := fun d F n hF =>
        ⟨fun p hp => hF.1 p (by rcases List.mem_cons.1 hp with h | h; cases h; exact h), by simp; exact hF.2⟩
      by_cases hc : c.toNat = 37
      · obtain rfl := c37 hc
        by_cases ht : (t.head?.map UInt8.toNat) = some 37
        · cases t with
          | nil => simp at ht
          | cons d u =>
            simp at ht
            obtain rfl := c37 ht
            rw [evs_two] at he
            simp only [List.length_cons] at h ⊢
            cases hu : evs u with
            | none => rw [hu] at he; cases he
            | some F =>
              rw [hu] at he
              cases he
              have := hch 37 F _ (ih u F (by omega) hu)
              exact ⟨this.1, by have h2 := this.2; simp only [List.length_cons] at h2 ⊢; omega⟩
        · cases hd : dirT t with
          | none => rw [evs_bad ht hd] at he; cases he
          | some x =>
            rw [evs_dir ht hd] at he
            have hok := dirT_ok hd
            cases hu : evs (t.drop x.2) with
            | none => rw [hu] at he; cases he
            | some F =>
              rw [hu] at he
              cases he
              obtain ⟨h1, h2⟩ := ih _ F (by rw [List.length_drop]; omega) hu
              rw [List.length_drop] at h2
              refine ⟨fun p hp => ?_, by simp; omega⟩
              rcases List.mem_cons.1 hp with h | h
              · cases h; exact hok.2.2.1
              · exact h1 p h
      · rw [evs_ch hc] at he
        cases hu : evs t with
        | none => rw [hu] at he; cases he
        | some F =>
          rw [hu] at he
          cases he
          have := hch c F _ (ih t F (by omega) hu)
          exact ⟨this.1, by simpa using this.2⟩
/-- One run behind the other. -/
theorem runE_app (l : List V) : ∀ (E F : List Ev) (k : Nat) (out : List UInt8), runE A l (E ++ F) k out = if (runE A l E k out).2.2 = 0 then runE A l F (k + dirsN E) (runE A l E k out).1 else runE A l E k out
  | [], F, k, out => by simp [runE, dirsN]
  | .ch c :: E, F, k, out => by rw [List.cons_append, runE, runE_app l E F, dirsN, runE]
  | .dr p :: E, F, k, out => by
    rw [List.cons_append, runE, runE, dirsN]
    cases l[k]? with
    | none => rfl
    | some v =>
      simp only []
      cases A p v with
      | none => rfl
      | some s =>
        simp only []
        rw [runE_app l E F, show k + (dirsN E + 1) = k + 1 + dirsN E by omega]
/-- What is printed behind what stands already. -/
theorem runE_out (l : List V) : ∀ (E : List Ev) (k : Nat) (out : List UInt8), runE A l E k out = if (runE A l E k []).2.2 = 0 then (out ++ (runE A l E k []).1, (runE A l E k []).2) else runE A l E k []
  | [], k, out => by simp [runE]
  | .ch c :: E, k, out => by
    rw [runE, runE_out l E k (out ++ [c]), runE, runE_out l E k ([] ++ [c])]
    by_cases h : (runE A l E k []).2.2 = 0 <;> simp [h]
  | .dr p :: E, k, out => by
    rw [runE, runE]
    cases l[k]? with
    | none => rfl
    | some v =>
      simp only []
      cases A p v with
      | none => rfl
      | some s =>
        simp only []
        rw [runE_out l E (k + 1) (out ++ s), runE_out l E (k + 1) ([] ++ s)]
        by_cases h : (runE A l E (k + 1) []).2.2 = 0 <;> simp [h]
theorem runE_n (l : List V) : ∀ (E : List Ev) (k : Nat) (out : List UInt8), (runE A l E k out).2.2 = 0 → (runE A l E k out).2.1 = 0
  | [], _, _, _ => rfl
  | .ch c :: E, k, out, h => by rw [runE] at h ⊢; exact runE_n l E k _ h
  | .dr p :: E, k, out, h => by
    rw [runE] at h ⊢
    cases hl : l[k]? with
    | none => rw [hl] at h; simp at h
    | some v =>
      rw [hl] at h
      simp only [] at h ⊢
      cases ha : A p v with
      | none => rw [ha] at h; simp at h
      | some s => rw [ha] at h; exact runE_n l E _ _ h
/-- The arguments that a run reads. -/
theorem runE_args (l m : List V) : ∀ (E : List Ev) (k j : Nat) (out : List UInt8), (∀ i, i < dirsN E → l[k + i]? = m[j + i]?) → (runE A l E k out).1 = (runE A m E j out).1 ∧ (runE A l E k out).2.2 = (runE A m E j out).2.2 ∧ ((runE A l E k out).2.2 ≠ 0 → (runE A l E k out).2.1 + j = (runE A m E j out).2.1 + k)
  | [], _, _, _, _ => ⟨rfl, rfl, fun h => absurd rfl h⟩
  | .ch c :: E, k, j, out, h => by rw [runE, runE]; exact runE_args l m E k j _ h
  | .dr p :: E, k, j, out, h => by
    have h0 := h 0 (by simp [dirsN])
    rw [Nat.add_zero, Nat.add_zero] at h0
    rw [runE, runE, h0]
    cases m[j]? with
    | none => exact ⟨rfl, rfl, fun _ => by simp only []; omega⟩
    | some v =>
      simp only []
      cases A p v with
      | none => exact ⟨rfl, rfl, fun _ => by simp only []; omega⟩
      | some s =>
        simp only []
        obtain ⟨h1, h2, h3⟩ := runE_args l m E (k + 1) (j + 1) (out ++ s) (fun i hi => by have := h (i + 1) (by simp [dirsN]; omega); rw [show k + 1 + i = k + (i + 1) by omega, show j + 1 + i = j + (i + 1) by omega]; exact this)
        exact ⟨h1, h2, fun hn => by have := h3 hn; omega⟩
/-- As many arguments as directives. -/
theorem runE_counts (l : List V) : ∀ (E : List Ev) (k : Nat) (out : List UInt8), k ≤ l.length →
    (k + dirsN E ≤ l.length → (runE A l E k out).2.2 ≠ 18) ∧ (l.length < k + dirsN E → ((runE A l E k out).2.2 = 18 ∧ (runE A l E k out).2.1 = l.length + 1) ∨ ((runE A l E k out).2.2 = 8 ∧ (runE A l E k out).2.1 ≤ l.length))
  | [], k, out, hk => ⟨fun _ => by simp [runE], fun h => by simp [dirsN] at h; omega⟩
  | .ch c :: E, k, out, hk => by rw [runE, dirsN]; exact runE_counts l E k _ hk
  | .dr p :: E, k, out, hk => by
    rw [runE, dirsN]
    cases hl : l[k]? with
    | none =>
      have : l.length ≤ k := List.getElem?_eq_none_iff.1 hl
      exact ⟨fun h => by omega, fun _ => .inl ⟨rfl, by simp only []; omega⟩⟩
    | some v =>
      have hkl : k < l.length := (List.getElem?_eq_some_iff.1 hl).1
      simp only []
      cases A p v with
      | none => exact ⟨fun _ => by simp, fun _ => .inr ⟨rfl, by simp only []; omega⟩⟩
      | some s =>
        simp only []
        have := runE_counts l E (k + 1) (out ++ s) hkl
        exact ⟨fun h => this.1 (by omega), fun h => this.2 (by omega)⟩
theorem runE_e (l : List V) : ∀ (E : List Ev) (k : Nat) (out : List UInt8), (runE A l E k out).2.2 = 0 ∨ (runE A l E k out).2.2 = 18 ∨ (runE A l E k out).2.2 = 8
  | [], _, _ => .inl rfl
  | .ch c :: E, k, out => by rw [runE]; exact runE_e l E k _
  | .dr p :: E, k, out => by
    rw [runE]
    cases l[k]? with
    | none => exact .inr (.inl rfl)
    | some v =>
      simp only []
      cases A p v with
      | none => exact .inr (.inr rfl)
      | some s => exact runE_e l E _ _
theorem runE_chs (l : List V) (t : List UInt8) (k : Nat) (out : List UInt8) : runE A l (t.map Ev.ch) k out = (out ++ t, 0, 0) := by
  induction t generalizing out with
  | nil => simp [runE]
  | cons c t ih => rw [List.map_cons, runE, ih]; simp
end

/-- Percent signs doubled. -/
def dupL (l : List UInt8) : List UInt8 := l.flatMap fun c => if c.toNat = 37 then [37, 37] else [c]
theorem dupL_cons (c : UInt8) (l : List UInt8) : dupL (c :: l) = (if c.toNat = 37 then [37, 37] else [c]) ++ dupL l := by unfold dupL; simp
theorem evs_dup (l : List UInt8) : evs (dupL l) = some (l.map Ev.ch) := by
  induction l with
  | nil => exact evs_nil
  | cons c l ih =>
    rw [dupL_cons]
    by_cases h : c.toNat = 37
    · obtain rfl := c37 h
      rw [if_pos h, List.cons_append, List.cons_append, List.nil_append, evs_two, ih]; rfl
    · rw [if_neg h, List.cons_append, List.nil_append, evs_ch h, ih]; rfl
theorem evs_plain {l : List UInt8} (h : ∀ c ∈ l, c.toNat ≠ 37) : evs l = some (l.map Ev.ch) := by
  induction l with
  | nil => exact evs_nil
  | cons c l ih => rw [evs_ch (h c (List.mem_cons_self)), ih (fun d hd => h d (List.mem_cons_of_mem _ hd))]; rfl
/-- A directive of a verb alone. -/
def verbP (v : Nat) : Pc := ⟨[], v, false, false, false, 0, -1⟩
theorem evs_q : evs [37, 113] = some [.dr (verbP 113)] := by
  have hd : dirT [113] = some (verbP 113, 1) := by rfl
  rw [evs_dir (by decide) hd]
  show (evs []).map _ = _
  rw [evs_nil]; rfl
theorem evs_s : evs [37, 115] = some [.dr (verbP 115)] := by
  have hd : dirT [115] = some (verbP 115, 1) := by rfl
  rw [evs_dir (by decide) hd]
  show (evs []).map _ = _
  rw [evs_nil]; rfl
end Go.Proofs.YtemlijadhdejeaaGreatDoor
