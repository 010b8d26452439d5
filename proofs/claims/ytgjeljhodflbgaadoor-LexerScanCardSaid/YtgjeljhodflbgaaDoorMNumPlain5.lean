/- The text of a number is parsed to it: plain facts, no program in sight. -/
import Derived.Test.YtgjeljhodflbgaaDoorMPlainC
namespace Go.Proofs.YtgjeljhodflbgaaDoor
set_option linter.unusedVariables false

/-- The text of a number. -/
def txtL (p q : Int) : List UInt8 := if q = 1 then Lib.itoa p else Lib.itoa p ++ 47 :: Lib.itoa q

theorem dec_digits (u : Nat) : (∀ c ∈ Lib.decDigits u, dvN c.toNat < 10) ∧ Lib.decDigits u ≠ [] := by
  have e : Lib.decDigits u = bDigits 10 u := by
    induction u using Nat.strongRecOn with
    | ind u ih =>
      rw [Lib.decDigits]
      split
      · rename_i h; rw [bDigits_small h]; unfold nameN; rw [if_pos h]
      · rename_i h
        rw [bDigits_big (by omega) h, ih (u / 10) (by omega)]
        unfold nameN
        rw [if_pos (by omega)]
  rw [e]
  exact ⟨bDigits_digits 10 (by omega) (by omega) u, bDigits_ne 10 u⟩
theorem dec_num (u : Nat) (h : u ≤ 4611686018427387904) : numL 10 (Lib.decDigits u) 0 = some u := by
  have e : Lib.decDigits u = bDigits 10 u := by
    clear h
    induction u using Nat.strongRecOn with
    | ind u ih =>
      rw [Lib.decDigits]
      split
      · rename_i h; rw [bDigits_small h]; unfold nameN; rw [if_pos h]
      · rename_i h
        rw [bDigits_big (by omega) h, ih (u / 10) (by omega)]
        unfold nameN
        rw [if_pos (by omega)]
  rw [e]
  exact numL_bDigits 10 (by omega) (by omega) u h

theorem make_vld {p q : Int} (h : vldB p q = true) : makeT p q = (p, q, 0) := by
  obtain ⟨b1, b2, b3, b4⟩ := vld_bd h
  have hg := vld_gcd h
  unfold makeT
  rw [if_neg (by omega), if_pos (by omega)]
  have h1 : redP p q = p := by rw [redP_eq _ _ (by omega), hg]; simp
  have h2 : redQ p q = q := by rw [redQ_eq _ _ (by omega), hg]; simp
  have hk : redOk p q = true := redOk_of (by omega) (by omega) (by omega)
  obtain ⟨a, b, c⟩ := r_ok hk
  unfold redT
  rw [a, b, c, h1, h2]

theorem index_at {a r : List UInt8} {c : UInt8} (h : ∀ d ∈ a, d ≠ c) : Lib.indexByte (a ++ c :: r) c = a.length := by
  induction a with
  | nil => simp [Lib.indexByte]
  | cons d a ih =>
    have hd := h d (List.mem_cons_self)
    have hi := ih (fun e he => h e (List.mem_cons_of_mem _ he))
    rw [List.cons_append, Lib.indexByte, if_neg (by simpa using hd), hi, if_neg (by simp <;> omega)]
    simp

/-- Digits, a slash, digits. -/
theorem uns_frac {a b : List UInt8} (ha : ∀ c ∈ a, dvN c.toNat < 10) (ha0 : a ≠ []) (hb : ∀ c ∈ b, dvN c.toNat < 10) (hb0 : b ≠ []) : unsL (a ++ 47 :: b) = fracT a b := by
  have hr : runL (a ++ 47 :: b) 10 0 = a.length := runL_upto ha (by decide)
  have hl : 0 < a.length := List.length_pos_iff.2 ha0
  have hat : bat (a ++ 47 :: b) a.length = 47 := by unfold bat; simp [List.getD]
  have hf : findL (a ++ 47 :: b) 0 = some ⟨false, -1, 0, a.length⟩ := by
    unfold findL
    simp only []
    rw [hr, hat, if_neg (by omega), if_neg (by omega), if_neg (by omega)]
  rw [unsL_far hf (by simp)]
  unfold fracL
  have hi := index_at (a := a) (r := b) (c := 47) (fun d hd => (digit_ne d (by have := ha d hd; omega)).1)
  rw [hi, if_neg (by omega), Int.toNat_natCast]
  simp

theorem frac_digits {a b : List UInt8} (ha : ∀ c ∈ a, dvN c.toNat < 10) (ha0 : a ≠ []) (hb : ∀ c ∈ b, dvN c.toNat < 10) (hb0 : b ≠ []) (m n : Nat) (hm : numL 10 a 0 = some m) (hn : numL 10 b 0 = some n) (h0 : n ≠ 0) : fracT a b = makeT m n := by
  unfold fracT
  rw [if_pos ⟨ha0, hb0, runL_all (Nat.zero_le _) (by simpa using ha), runL_all (Nat.zero_le _) (by simpa using hb)⟩, hm, hn]
  simp only []
  rw [if_neg h0]

/-- What stands behind the sign. -/
def absL (p q : Int) : List UInt8 := if q = 1 then Lib.decDigits p.natAbs else Lib.decDigits p.natAbs ++ 47 :: Lib.decDigits q.toNat
theorem txt_abs {p q : Int} (hq : 1 ≤ q) : txtL p q = if p < 0 then 45 :: absL p q else absL p q := by
  have hi : Lib.itoa q = Lib.decDigits q.toNat := by unfold Lib.itoa; rw [if_neg (by omega)]
  have hp : Lib.itoa p = if p < 0 then 45 :: Lib.decDigits p.natAbs else Lib.decDigits p.natAbs := by
    unfold Lib.itoa
    by_cases h : p < 0
    · rw [if_pos h, if_pos h]
    · rw [if_neg h, if_neg h]
      congr 1; omega
  unfold txtL absL
  rw [hi, hp]
  by_cases h : p < 0
  · rw [if_pos h, if_pos h]; split <;> simp
  · rw [if_neg h, if_neg h]
theorem abs_bytes (p q : Int) : (∀ c ∈ absL p q, dvN c.toNat < 10 ∨ c = 47) ∧ absL p q ≠ [] ∧ ¬ (absL p q).head? = some 45 := by
  have h1 := dec_digits p.natAbs
  have h2 := dec_digits q.toNat
  have hh : ∀ l : List UInt8, ¬ (Lib.decDigits p.natAbs ++ l).head? = some 45 := by
    intro l
    cases hd : Lib.decDigits p.natAbs with
    | nil => exact absurd hd h1.2
    | cons c r =>
      have hc := h1.1 c (by rw [hd]; exact List.mem_cons_self)
      have := (digit_ne c (by omega)).2.1
      simpa using this
  unfold absL
  split
  · refine ⟨fun c hc => .inl (h1.1 c hc), h1.2, ?_⟩
    have := hh []
    simpa using this
  · refine ⟨fun c hc => ?_, by simp, hh _⟩
    rcases List.mem_append.1 hc with hc | hc
    · exact .inl (h1.1 c hc)
    · rcases List.mem_cons.1 hc with rfl | hc
      · exact .inr rfl
      · exact .inl (h2.1 c hc)
theorem uns_abs {p q : Int} (h : vldB p q = true) : unsL (absL p q) = ((p.natAbs : Int), q, 0) := by
  obtain ⟨b1, b2, b3, b4⟩ := vld_bd h
  have hv : vldB p.natAbs q = true := by
    unfold vldB at h ⊢
    simp only [Bool.and_eq_true, decide_eq_true_eq, beq_iff_eq] at h ⊢
    refine ⟨h.1, h.2.1, by omega, by omega, ?_⟩
    have e : Int.gcd ((p.natAbs : Nat) : Int) q = Int.gcd p q := by unfold Int.gcd; simp
    rw [e]; exact h.2.2.2.2
  have h1 := dec_digits p.natAbs
  have h2 := dec_digits q.toNat
  have n1 := dec_num p.natAbs (by omega)
  have n2 := dec_num q.toNat (by omega)
  unfold absL
  by_cases hq : q = 1
  · subst hq
    rw [if_pos rfl, uns_digits h1.2 h1.1, n1]
    show makeT (p.natAbs : Int) ((1 : Nat) : Int) = _
    exact make_vld hv
  · rw [if_neg hq, uns_frac h1.1 h1.2 h2.1 h2.2, frac_digits h1.1 h1.2 h2.1 h2.2 _ _ n1 n2 (by omega)]
    have : ((q.toNat : Nat) : Int) = q := by omega
    rw [this]
    exact make_vld hv
theorem blank_of {c : UInt8} (h : dvN c.toNat < 10 ∨ c = 47) : blankL.contains c = false := by
  rcases h with h | rfl
  · exact digit_blank c (by omega)
  · decide

theorem parse_text {p q : Int} (h : vldB p q = true) : parseL (9 :: txtL p q ++ [32, 10]) = (p, q, 0) := by
  obtain ⟨b1, b2, b3, b4⟩ := vld_bd h
  obtain ⟨a1, a2, a3⟩ := abs_bytes p q
  have hu := uns_abs h
  have ht : ∀ l : List UInt8, (∀ c ∈ l, blankL.contains c = false) → Lib.trimS (9 :: l ++ [32, 10]) blankL = l := by
    intro l hl
    have := trim_around (a := [9]) (l := l) (b := [32, 10]) (by decide) (by decide) hl
    exact this
  rw [txt_abs b1]
  unfold parseL
  by_cases hp : p < 0
  · rw [if_pos hp, ht (45 :: absL p q) (by
      intro c hc
      rcases List.mem_cons.1 hc with rfl | hc
      · decide
      · exact blank_of (a1 c hc)), if_pos (by rfl)]
    show minusT true (unsL (absL p q)) = _
    rw [hu]
    show (-(p.natAbs : Int), q, (0 : Int)) = _
    congr 1; omega
  · rw [if_neg hp, ht (absL p q) (fun c hc => blank_of (a1 c hc)), if_neg a3, hu]
    show ((p.natAbs : Int), q, (0 : Int)) = _
    congr 1; omega
theorem parse_minus {p q : Int} (h : vldB p q = true) (hp : ¬ p < 0) : parseL (45 :: txtL p q) = (-p, q, 0) := by
  obtain ⟨b1, b2, b3, b4⟩ := vld_bd h
  obtain ⟨a1, a2, a3⟩ := abs_bytes p q
  have hu := uns_abs h
  rw [txt_abs b1, if_neg hp]
  unfold parseL
  rw [trim_none (by
    intro c hc
    rcases List.mem_cons.1 hc with rfl | hc
    · decide
    · exact blank_of (a1 c hc)), if_pos (by rfl)]
  show minusT true (unsL (absL p q)) = _
  rw [hu]
  show (-(p.natAbs : Int), q, (0 : Int)) = _
  congr 1; omega
end Go.Proofs.YtgjeljhodflbgaaDoor
