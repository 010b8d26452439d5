/- The errors that the reference's Check finds are the program's: plain. -/
import Derived.Test.YthkpggpnbdedjaaGreatMTrRc
import Derived.Test.YthkpggpnbdedjaaGreatMTrOk
namespace Go.Proofs.YthkpggpnbdedjaaGreat
open Go.RowKit Go.Instr
set_option linter.unusedVariables false

/-- The text of a left side, and whether it consists of names. -/
def sideN : Nat → TX → ByteArray × Bool
  | 0, _ => (⟨#[]⟩, false)
  | n + 1, x => if x.k = 7 then (x.s, true)
    else match x.k == 8, x.args with
      | true, [a, b] => if b.k = 5 ∧ nameB b.s.data.toList = true then ((sideN n a).1 ++ ⟨#[46]⟩ ++ b.s, (sideN n a).2) else (⟨#[]⟩, false)
      | _, _ => (⟨#[]⟩, false)
/-- The text with a colon in place of the last point. -/
def colonN (x : TX) : ByteArray := match x.args with | [a, b] => (sideN (rkX a + 1) a).1 ++ ⟨#[58]⟩ ++ b.s | _ => ⟨#[]⟩
/-- The names that the reference allows. -/
def alS (s : TS) : List ByteArray :=
  if s.k = 2 then s.names.map fun x => x.1
  else match s.k == 3, s.left, s.right.length with
    | true, [x], 1 => if (sideN (rkX x + 1) x).2 = true then [⟨#[]⟩, (sideN (rkX x + 1) x).1] ++ (if x.k = 8 then [colonN x] else []) else [⟨#[]⟩]
    | _, _, _ => [⟨#[]⟩]
/-- The error of an expression alone. -/
def rxE (x : TX) (inn : Bool) (names : List ByteArray) : Int := if longB x = true then 3 else if foB x inn names = false then 4 else if namedB x = false then 9 else 0
/-- A statement's parts behind its left sides. -/
def restS (s : TS) : List (TX ⊕ TB) := if s.k = 7 then s.blocks.map .inr ++ s.right.map .inl else if s.k = 8 then zipP s.right s.blocks else s.right.map .inl ++ s.blocks.map .inr
theorem parts_rest (s : TS) : partsS s = s.left.map .inl ++ restS s := rfl
/-- The error of a part, as the reference goes through it. -/
def rkE : Nat → TX ⊕ TB → Bool → List ByteArray → Int
  | 0, _, _, _ => 0
  | n + 1, .inl x, inn, names => fe (rxE x inn names :: (x.args.map (fun y => rkE n (.inl y) (x.k == 12) [⟨#[]⟩]) ++ x.funcs.map (fun f => rkE n (.inr ⟨f.bA, f.bC, f.body⟩) false [⟨#[]⟩])))
  | n + 1, .inr y, _, _ => fe (y.l.mapIdx fun i s => fe (csE s ((i : Int) == (y.l.length : Int) - 1) :: (s.left.map (fun x => rkE n (.inl x) false [⟨#[]⟩]) ++ (restS s).map fun p => rkE n p false (alS s))))
theorem rkE_inr (n : Nat) (y : TB) (inn : Bool) (names : List ByteArray) : rkE n (.inr y) inn names = rkE n (.inr y) false [⟨#[]⟩] := by cases n <;> rfl

theorem feB_par {x : TX} {p q : Int} (h : (p == 12) = (q == 12)) : feB x p = feB x q := by
  unfold feB
  rw [h]
theorem has_funcs {x : TX} {op num str : Bool} {n : Int} (h : hasB x op num str n = true) (hk : x.k ≠ 11) : x.funcs.length = 0 := by
  unfold hasB at h
  simp only [Bool.and_eq_true, Bool.or_eq_true, beq_iff_eq] at h
  have := h.2.2.2.2
  omega
theorem feB_funcs {x : TX} {par : Int} (h : feB x par = true) (hk : x.k ≠ 11) : x.funcs.length = 0 := by
  unfold feB at h
  by_cases h1 : x.k = 1
  · rw [if_pos h1] at h; exact has_funcs h hk
  rw [if_neg h1] at h
  by_cases h2 : x.k = 2
  · rw [if_pos h2] at h; exact has_funcs h hk
  rw [if_neg h2] at h
  by_cases h3 : x.k = 3
  · rw [if_pos h3] at h; exact has_funcs h hk
  rw [if_neg h3] at h
  by_cases h4 : x.k = 4
  · rw [if_pos h4] at h; rw [Bool.and_eq_true] at h; exact has_funcs h.1 hk
  rw [if_neg h4] at h
  by_cases h5 : x.k = 5
  · rw [if_pos h5] at h; exact has_funcs h hk
  rw [if_neg h5] at h
  by_cases h6 : x.k = 6
  · rw [if_pos h6] at h; exact has_funcs h hk
  rw [if_neg h6] at h
  by_cases h7 : x.k = 7
  · rw [if_pos h7] at h; exact has_funcs h hk
  rw [if_neg h7] at h
  by_cases h8 : x.k = 8
  · rw [if_pos h8] at h; rw [Bool.and_eq_true] at h; exact has_funcs h.1 hk
  rw [if_neg h8] at h
  by_cases h9 : x.k = 9
  · rw [if_pos h9] at h; rw [Bool.and_eq_true] at h; exact has_funcs h.1 hk
  rw [if_neg h9] at h
  by_cases h10 : x.k = 10
  · rw [if_pos h10] at h; rw [Bool.and_eq_true] at h; exact has_funcs h.1 hk
  rw [if_neg h10] at h
  by_cases h11 : x.k = 11
  · rw [if_pos h11] at h; rw [Bool.and_eq_true] at h; exact has_funcs h.1 hk
  rw [if_neg h11] at h
  by_cases h12 : x.k = 12
  · rw [if_pos h12] at h; rw [Bool.and_eq_true] at h; exact has_funcs h.1 hk
  rw [if_neg h12] at h
  by_cases h13 : x.k = 13
  · rw [if_pos h13] at h; rw [Bool.and_eq_true] at h; exact has_funcs h.1 hk
  rw [if_neg h13] at h
  by_cases h14 : x.k = 14
  · rw [if_pos h14] at h; rw [Bool.and_eq_true] at h; exact has_funcs h.1 hk
  rw [if_neg h14] at h
  by_cases h15 : x.k = 15
  · rw [if_pos h15] at h; rw [Bool.and_eq_true] at h; exact has_funcs h.1 hk
  rw [if_neg h15] at h
  by_cases h16 : x.k = 16
  · rw [if_pos h16] at h; rw [Bool.and_eq_true] at h; exact has_funcs h.1 hk
  rw [if_neg h16] at h
  by_cases h17 : x.k = 17
  · rw [if_pos h17] at h; exact has_funcs h hk
  rw [if_neg h17] at h
  by_cases h18 : x.k = 18
  · rw [if_pos h18] at h; exact has_funcs h hk
  rw [if_neg h18] at h
  by_cases h19 : x.k = 19
  · rw [if_pos h19] at h; rw [Bool.and_eq_true] at h; exact has_funcs h.1 hk
  rw [if_neg h19] at h
  cases h
theorem rsE_cs (s : TS) (last : Bool) : (if (s.names.any longN || decide (40 < s.label.size)) = true then (3 : Int) else if (decide (0 ≤ s.ln) && fsB s last) = false then 4 else if (!(s.names.any badN) && !((s.k == 13 || s.k == 14) && !nameB s.label.data.toList)) = false then 9 else 0) = csE s last := by
  unfold csE
  generalize s.names.any longN = a
  generalize s.names.any badN = b
  generalize (decide (0 ≤ s.ln) && fsB s last) = c
  generalize ((s.k == 13 || s.k == 14) && !nameB s.label.data.toList) = d
  by_cases h : 40 < s.label.size
  · rw [decide_eq_true h, if_pos h]; cases a <;> rfl
  · rw [decide_eq_false h, if_neg h]
    cases a <;> cases b <;> cases c <;> cases d <;> rfl
theorem rxE_ce (x : TX) (inn : Bool) (names : List ByteArray) (par : Int) (t : TT) (hp : inn = (par == 12)) (hf : ∀ f ∈ x.funcs, nmF names f = !(badL t f)) : rxE x inn names = ceE x par t := by
  have h1 : feB x (if inn then 12 else 0) = feB x par := feB_par (by rw [← hp]; cases inn <;> rfl)
  have hall : x.funcs.all (nmF names) = !(x.funcs.any (badL t)) := by
    rw [Bool.eq_iff_iff]
    simp only [List.all_eq_true, Bool.not_eq_true', List.any_eq_false]
    constructor
    · intro h f hm
      have := h f hm
      rw [hf f hm] at this
      simpa using this
    · intro h f hm
      rw [hf f hm]
      have := h f hm
      simpa using this
  unfold rxE ceE longB foB namedB
  rw [h1, hall]
  have key : (decide (0 ≤ x.ln) && feB x par) = true → x.k ≠ 11 → x.funcs.any (badL t) = false := fun h hk => by
    rw [Bool.and_eq_true] at h
    rw [List.eq_nil_of_length_eq_zero (feB_funcs h.2 hk)]
    rfl
  have key2 : (x.k != 11) = true → x.k ≠ 11 := fun h e => by rw [e] at h; cases h
  generalize (decide (0 ≤ x.ln)) = l at key ⊢
  generalize feB x par = c at key ⊢
  generalize (x.k != 11) = k at key2 ⊢
  generalize x.funcs.any (badL t) = b at key ⊢
  generalize x.funcs.any longF = a
  generalize x.funcs.any badF = e
  generalize ((x.k == 7 || x.k == 10) && !nameB x.s.data.toList) = d
  by_cases h : mostI x < (x.s.size : Int)
  · rw [decide_eq_true h, if_pos h]; rfl
  · rw [decide_eq_false h, if_neg h]
    cases l <;> cases c <;> cases k <;> cases b <;> first | (cases a <;> cases e <;> cases d <;> rfl) | (have := key rfl (key2 rfl); cases this)

theorem joinB_snoc (c : UInt8) (s : ByteArray) : ∀ l : List ByteArray, l ≠ [] → joinB c (l ++ [s]) = joinB c l ++ ⟨#[c]⟩ ++ s
  | [a], _ => rfl
  | a :: b :: l, _ => by
    show a ++ ⟨#[c]⟩ ++ joinB c ((b :: l) ++ [s]) = (a ++ ⟨#[c]⟩ ++ joinB c (b :: l)) ++ ⟨#[c]⟩ ++ s
    rw [joinB_snoc c s (b :: l) (by simp)]
    simp only [ByteArray.append_assoc]
theorem side_cases (x : TX) : (x.k = 7 ∧ ∀ n, sideN (n + 1) x = (x.s, true) ∧ pthN (n + 1) x = ([x.s], true)) ∨
    (x.k = 8 ∧ ∃ a b, x.args = [a, b] ∧ b.k = 5 ∧ nameB b.s.data.toList = true ∧ ∀ n, sideN (n + 1) x = ((sideN n a).1 ++ ⟨#[46]⟩ ++ b.s, (sideN n a).2) ∧ pthN (n + 1) x = ((pthN n a).1 ++ [b.s], (pthN n a).2)) ∨
    (∀ n, sideN (n + 1) x = (⟨#[]⟩, false) ∧ pthN (n + 1) x = ([], false)) := by
  have es : ∀ n, sideN (n + 1) x = if x.k = 7 then (x.s, true) else match x.k == 8, x.args with
      | true, [a, b] => if b.k = 5 ∧ nameB b.s.data.toList = true then ((sideN n a).1 ++ ⟨#[46]⟩ ++ b.s, (sideN n a).2) else (⟨#[]⟩, false)
      | _, _ => (⟨#[]⟩, false) := fun _ => rfl
  have ep : ∀ n, pthN (n + 1) x = if x.k = 7 then ([x.s], true) else match x.k == 8, x.args with
      | true, [a, b] => if b.k = 5 ∧ nameB b.s.data.toList = true then ((pthN n a).1 ++ [b.s], (pthN n a).2) else ([], false)
      | _, _ => ([], false) := fun _ => rfl
  by_cases h7 : x.k = 7
  · exact .inl ⟨h7, fun n => ⟨by rw [es, if_pos h7], by rw [ep, if_pos h7]⟩⟩
  · by_cases h8 : x.k = 8
    · have d8 : (x.k == 8) = true := by simpa using h8
      match hx : x.args with
      | [a, b] =>
        by_cases hc : b.k = 5 ∧ nameB b.s.data.toList = true
        · refine .inr (.inl ⟨h8, a, b, rfl, hc.1, hc.2, fun n => ⟨?_, ?_⟩⟩)
          · rw [es, if_neg h7, d8, hx]
            exact if_pos hc
          · rw [ep, if_neg h7, d8, hx]
            exact if_pos hc
        · refine .inr (.inr fun n => ⟨?_, ?_⟩)
          · rw [es, if_neg h7, d8, hx]
            exact if_neg hc
          · rw [ep, if_neg h7, d8, hx]
            exact if_neg hc
      | [] => exact .inr (.inr fun n => ⟨by rw [es, if_neg h7, d8, hx], by rw [ep, if_neg h7, d8, hx]⟩)
      | [_] => exact .inr (.inr fun n => ⟨by rw [es, if_neg h7, d8, hx], by rw [ep, if_neg h7, d8, hx]⟩)
      | _ :: _ :: _ :: _ => exact .inr (.inr fun n => ⟨by rw [es, if_neg h7, d8, hx], by rw [ep, if_neg h7, d8, hx]⟩)
    · have d8 : (x.k == 8) = false := by simpa using h8
      exact .inr (.inr fun n => ⟨by rw [es, if_neg h7, d8], by rw [ep, if_neg h7, d8]⟩)
theorem two_rk {x a b : TX} (h : x.args = [a, b]) : rkX a + rkX b < rkX x := by
  have hr := rkX_eq x
  rw [h] at hr
  have hx : rkXs [a, b] = rkX a + (rkX b + 0) := rfl
  omega
theorem left_pth : ∀ n x, (sideN n x).2 = (pthN n x).2 ∧ ((pthN n x).2 = true → (sideN n x).1 = joinB 46 (pthN n x).1)
  | 0, _ => ⟨rfl, fun h => by cases h⟩
  | n + 1, x => by
    rcases side_cases x with ⟨-, h⟩ | ⟨-, a, b, -, -, -, h⟩ | h
    · rw [(h n).1, (h n).2]
      exact ⟨rfl, fun _ => rfl⟩
    · rw [(h n).1, (h n).2]
      have ih := left_pth n a
      refine ⟨ih.1, fun h => ?_⟩
      show (sideN n a).1 ++ _ ++ _ = _
      rw [ih.2 h, joinB_snoc _ _ _ (pthN_ne n a h)]
    · rw [(h n).1, (h n).2]
      exact ⟨rfl, fun h => by cases h⟩
theorem pth_fuel : ∀ n m x, rkX x < n → rkX x < m → pthN n x = pthN m x
  | 0, _, _, h, _ => by omega
  | _ + 1, 0, _, _, h => by omega
  | n + 1, m + 1, x, h1, h2 => by
    rcases side_cases x with ⟨-, h⟩ | ⟨-, a, b, hab, -, -, h⟩ | h
    · rw [(h n).2, (h m).2]
    · have := two_rk hab
      rw [(h n).2, (h m).2, pth_fuel n m a (by omega) (by omega)]
    · rw [(h n).2, (h m).2]

theorem word_col : ∀ c : Fin 256, wordB (UInt8.ofNat c.val) = true → ((UInt8.ofNat c.val).toNat == 58) = false := by decide +kernel
theorem name_col {s : ByteArray} (h : nameB s.data.toList = true) : colB s = false := by
  unfold colB
  rw [List.any_eq_false]
  intro c hc
  have hw : s.data.toList.all wordB = true := by
    cases hs : s.data.toList with
    | nil => rw [hs] at hc; cases hc
    | cons u v =>
      rw [hs, nameB_cons] at h
      simp only [Bool.and_eq_true] at h
      exact h.2.2.2
  have h1 := List.all_eq_true.1 hw c hc
  have h2 := word_col ⟨c.toNat, UInt8.toNat_lt c⟩ (by simpa using h1)
  simpa using h2
theorem colB_app (a b : ByteArray) : colB (a ++ b) = (colB a || colB b) := by
  unfold colB
  simp
theorem join_col : ∀ l : List ByteArray, (∀ w ∈ l, colB w = false) → colB (joinB 46 l) = false
  | [], _ => rfl
  | [a], h => h a List.mem_cons_self
  | a :: b :: l, h => by
    show colB (a ++ ⟨#[46]⟩ ++ joinB 46 (b :: l)) = false
    rw [colB_app, colB_app, h a List.mem_cons_self, join_col (b :: l) fun w hw => h w (List.mem_cons_of_mem _ hw)]
    rfl
theorem ceE_name {x : TX} {par : Int} {t : TT} (h : ceE x par t = 0) (hk : x.k = 7) : nameB x.s.data.toList = true := by
  unfold ceE at h
  split at h; · cases h
  split at h; · cases h
  split at h; · cases h
  split at h; · cases h
  split at h; · cases h
  · rename_i h1
    rw [show (x.k == 7) = true by simpa using hk, Bool.true_or, Bool.true_and] at h1
    simpa using h1
theorem words_ok : ∀ n x par t, rkX x < n → ckE n (.inl x) par t = 0 → (pthN n x).2 = true → ∀ w ∈ (pthN n x).1, nameB w.data.toList = true
  | 0, _, _, _, h, _, _ => by omega
  | n + 1, x, par, t, h, hz, hok => by
    have hall := fe_zero (show fe _ = 0 from hz)
    rcases side_cases x with ⟨h7, hc⟩ | ⟨h8, a, b, hab, hb, hnb, hc⟩ | hc
    · rw [(hc n).2]
      intro w hw
      obtain rfl : w = x.s := by simpa using hw
      exact ceE_name (hall _ List.mem_cons_self) h7
    · rw [(hc n).2] at hok ⊢
      have hr := two_rk hab
      intro w hw
      rcases List.mem_append.1 hw with hw | hw
      · exact words_ok n a x.k T0 (by omega) (hall _ (List.mem_cons_of_mem _ (List.mem_append_left _ (List.mem_map.2 ⟨a, by rw [hab]; exact List.mem_cons_self, rfl⟩)))) hok w hw
      · obtain rfl : w = b.s := by simpa using hw
        exact hnb
    · rw [(hc n).2] at hok
      cases hok
theorem nm_fit {f : TF} {t : TT} {names : List ByteArray} (h : names.any (nm1 f) = fitsB t f) : nmF names f = !(badL t f) := by
  unfold nmF badL
  rw [h, Bool.not_not, Bool.and_comm]
theorem beq_swap (a b : List UInt8) : (a == b) = (b == a) := by rw [Bool.eq_iff_iff, beq_iff_eq, beq_iff_eq]; exact eq_comm
theorem fit_zero (f : TF) : nmF [⟨#[]⟩] f = !(badL T0 f) := nm_fit (by
  unfold fitsB T0 nm1
  simp only [List.any_cons, List.any_nil, Bool.or_false]
  rw [beq_swap, show colB ⟨#[]⟩ = false from rfl, nil_list]
  simp)
theorem csE_form {s : TS} {last : Bool} (h : csE s last = 0) : fsB s last = true ∧ s.names.any badN = false := by
  unfold csE at h
  split at h; · cases h
  split at h; · cases h
  split at h; · cases h
  split at h; · cases h
  split at h; · cases h
  · rename_i h3 _ h5
    simp only [Bool.not_eq_false, Bool.and_eq_true] at h3
    exact ⟨h3.2, by simpa using h5⟩
theorem al_fits (s : TS) (last : Bool) (n : Nat) (hcs : csE s last = 0) (hL : ∀ x ∈ s.left, ckE n (.inl x) 0 (tiP s) = 0) (hrk : ∀ x ∈ s.left, rkX x < n) (f : TF) : nmF (alS s) f = !(badL (tiP s) f) := by
  obtain ⟨hfs, hbn⟩ := csE_form hcs
  by_cases h2 : s.k = 2
  · have hl : s.names.length = 1 := by
      unfold fsB at hfs
      rw [if_neg (by omega), if_pos h2, Bool.and_eq_true] at hfs
      have := hfs.1
      unfold cntB at this
      rw [Bool.and_eq_true] at this
      exact fit_one this.1
    obtain ⟨x, hx⟩ : ∃ x, s.names = [x] := by
      match h : s.names with
      | [x] => exact ⟨x, rfl⟩
      | [] => rw [h] at hl; cases hl
      | _ :: _ :: _ => rw [h] at hl; simp at hl
    have hnb : nameB x.1.data.toList = true := by
      rw [hx] at hbn
      simpa [badN] using hbn
    apply nm_fit
    unfold alS tiP fitsB nm1
    rw [if_pos h2, if_pos ⟨h2, hl⟩, hx]
    simp only [List.map_cons, List.map_nil, List.any_cons, List.any_nil, Bool.or_false]
    rw [name_col hnb, beq_swap, nil_list]
    simp
  · by_cases hne : ∃ x, s.k = 3 ∧ s.left = [x] ∧ s.right.length = 1 ∧ (sideN (rkX x + 1) x).2 = true
    · obtain ⟨x, h3, hl, hr, hok⟩ := hne
      have hp := left_pth (rkX x + 1) x
      have hokp : (pthN (rkX x + 1) x).2 = true := by rw [← hp.1]; exact hok
      have hz : ckE (rkX x + 1) (.inl x) 0 (tiP s) = 0 := by
        exact (ckE_fuel _ _ (.inl x) 0 (tiP s) (Nat.lt_succ_self _) (hrk x (by rw [hl]; exact List.mem_cons_self))).trans (hL x (by rw [hl]; exact List.mem_cons_self))
      have hw := words_ok (rkX x + 1) x 0 (tiP s) (Nat.lt_succ_self _) hz hokp
      have hJ := hp.2 hokp
      have hJc : colB (sideN (rkX x + 1) x).1 = false := by rw [hJ]; exact join_col _ fun w h => name_col (hw w h)
      have hal : alS s = [⟨#[]⟩, (sideN (rkX x + 1) x).1] ++ (if x.k = 8 then [colonN x] else []) := by
        unfold alS
        rw [if_neg h2, show (s.k == 3) = true by simpa using h3, hl, hr]
        show (if (sideN (rkX x + 1) x).2 = true then _ else _) = _
        rw [if_pos hok]
      have hti : tiP s = ⟨none, 2, [⟨#[]⟩, joinB 46 (pthN (rkX x + 1) x).1], if 1 < (pthN (rkX x + 1) x).1.length then joinB 46 (pthN (rkX x + 1) x).1.dropLast ++ ⟨#[58]⟩ ++ ((pthN (rkX x + 1) x).1.getLast?.getD ⟨#[]⟩) else ⟨#[]⟩⟩ := by
        unfold tiP
        rw [if_neg (fun h => h2 h.1), show (s.k == 3) = true by simpa using h3, hl, hr]
        show (if (pthN (rkX x + 1) x).2 = true then _ else _) = _
        rw [if_pos hokp]
      apply nm_fit
      rw [hal, hti, ← hJ]
      generalize hJJ : (sideN (rkX x + 1) x).1 = J at hJc ⊢
      rcases side_cases x with ⟨h7, hc⟩ | ⟨h8, a, b, hab, hb5, hbn2, hc⟩ | hc
      · rw [(hc _).2, if_neg (by omega), if_neg (by simp)]
        unfold fitsB nm1
        simp only [List.append_nil, List.any_cons, List.any_nil, Bool.or_false]
        rw [hJc, show colB ⟨#[]⟩ = false from rfl, beq_swap, beq_swap J.toList, nil_list]
        simp
      · have hrab := two_rk hab
        have e : pthN (rkX x + 1) x = ((pthN (rkX a + 1) a).1 ++ [b.s], (pthN (rkX a + 1) a).2) := by
          rw [(hc _).2, pth_fuel (rkX a + 1) (rkX x) a (by omega) (by omega)]
        rw [e] at hokp ⊢
        have hpa := left_pth (rkX a + 1) a
        have hne := pthN_ne (rkX a + 1) a hokp
        have hpos : 0 < (pthN (rkX a + 1) a).1.length := List.length_pos_iff.2 hne
        have hcol : colonN x = joinB 46 (pthN (rkX a + 1) a).1 ++ ⟨#[58]⟩ ++ b.s := by
          unfold colonN
          rw [hab]
          show (sideN (rkX a + 1) a).1 ++ _ ++ _ = _
          rw [hpa.2 hokp]
        dsimp only
        rw [if_pos h8, if_pos (by simp; omega), List.dropLast_concat, List.getLast?_concat, Option.getD_some, ← hcol]
        show _ = fitsB ⟨none, 2, [⟨#[]⟩, J], colonN x⟩ f
        have hc1 : colB (colonN x) = true := by
          rw [hcol, colB_app, colB_app, show colB ⟨#[58]⟩ = true from rfl, Bool.or_true, Bool.true_or]
        have hc2 : (colonN x).toList.isEmpty = false := by
          rw [Lib.toList_data]
          cases h : (colonN x).data.toList with
          | nil =>
            unfold colB at hc1
            rw [h] at hc1
            cases hc1
          | cons u v => rfl
        generalize colonN x = M at hc1 hc2 ⊢
        unfold fitsB nm1
        simp only [List.cons_append, List.nil_append, List.any_cons, List.any_nil, Bool.or_false]
        rw [hJc, hc1, hc2, show colB ⟨#[]⟩ = false from rfl, beq_swap, beq_swap J.toList, beq_swap M.toList, nil_list]
        simp [Bool.or_assoc]
      · rw [(hc _).2] at hokp
        cases hokp
    · have e1 : alS s = [⟨#[]⟩] := by
        unfold alS
        rw [if_neg h2]
        split
        · rename_i x h3 hl hr
          rw [if_neg (fun h => hne ⟨x, by simpa using h3, hl, hr, h⟩)]
        · rfl
      have e2 : tiP s = T0 := by
        unfold tiP
        rw [if_neg (fun h => h2 h.1)]
        split
        · rename_i x h3 hl hr
          rw [if_neg (fun h => hne ⟨x, by simpa using h3, hl, hr, by rw [(left_pth _ _).1]; exact h⟩)]
        · rfl
      rw [e1, e2]
      exact fit_zero f
theorem ckE_side {x : TX} (hk : x.k ≠ 11) (n : Nat) (par : Int) (t t' : TT) : ckE n (.inl x) par t = ckE n (.inl x) par t' := by
  cases n with
  | zero => rfl
  | succ n =>
    show fe _ = fe _
    congr 2
    unfold ceE
    by_cases hf : (decide (0 ≤ x.ln) && feB x par) = false
    · rw [if_pos hf]; rw [if_pos hf]
    · have h : (decide (0 ≤ x.ln) && feB x par) = true := by simpa using hf
      rw [Bool.and_eq_true] at h
      rw [List.eq_nil_of_length_eq_zero (feB_funcs h.2 hk)]
      rfl
theorem side_no {s : TS} {last : Bool} (h : fsB s last = true) (hn : s.k ≠ 3) : s.left.length = 0 := by
  have key : ∀ {n r b : Int} {lb : Bool}, cntB s n 0 r b lb = true → s.left.length = 0 := fun h => by
    unfold cntB fitN at h
    simp only [Bool.and_eq_true, Bool.or_eq_true, beq_iff_eq, decide_eq_true_eq] at h
    have := h.2.1
    omega
  unfold fsB at h
  by_cases h1 : s.k = 1
  · rw [if_pos h1] at h; rw [Bool.and_eq_true] at h; exact key h.1
  rw [if_neg h1] at h
  by_cases h2 : s.k = 2
  · rw [if_pos h2] at h; rw [Bool.and_eq_true] at h; exact key h.1
  rw [if_neg h2] at h
  by_cases h3 : s.k = 3
  · rw [if_pos h3] at h; exact absurd h3 hn
  rw [if_neg h3] at h
  by_cases h4 : s.k = 4
  · rw [if_pos h4] at h; rw [Bool.and_eq_true] at h; exact key h.1
  rw [if_neg h4] at h
  by_cases h5 : s.k = 5
  · rw [if_pos h5] at h; exact key h
  rw [if_neg h5] at h
  by_cases h6 : s.k = 6
  · rw [if_pos h6] at h; exact key h
  rw [if_neg h6] at h
  by_cases h7 : s.k = 7
  · rw [if_pos h7] at h; exact key h
  rw [if_neg h7] at h
  by_cases h8 : s.k = 8
  · rw [if_pos h8] at h; rw [Bool.and_eq_true] at h; exact key h.1
  rw [if_neg h8] at h
  by_cases h9 : s.k = 9
  · rw [if_pos h9] at h; rw [Bool.and_eq_true, Bool.or_eq_true] at h; rcases h.1 with h | h <;> exact key h
  rw [if_neg h9] at h
  by_cases h10 : s.k = 10
  · rw [if_pos h10] at h; rw [Bool.and_eq_true] at h; exact key h.1
  rw [if_neg h10] at h
  by_cases h11 : s.k = 11
  · rw [if_pos h11] at h; rw [Bool.and_eq_true] at h; exact key h.1
  rw [if_neg h11] at h
  by_cases h12 : s.k = 12
  · rw [if_pos h12] at h; exact key h
  rw [if_neg h12] at h
  by_cases h13 : s.k = 13
  · rw [if_pos h13] at h; exact key h
  rw [if_neg h13] at h
  by_cases h14 : s.k = 14
  · rw [if_pos h14] at h; exact key h
  rw [if_neg h14] at h
  cases h
theorem side_k {s : TS} {last : Bool} (h : fsB s last = true) : ∀ x ∈ s.left, x.k ≠ 11 := by
  by_cases h3 : s.k = 3
  · unfold fsB at h
    rw [if_neg (by omega), if_neg (by omega), if_pos h3, Bool.and_eq_true] at h
    intro x hx e
    have h2 := h.2
    rw [Bool.not_eq_true', List.any_eq_false] at h2
    have := h2 x hx
    rw [e] at this
    exact this rfl
  · have hz := side_no h h3
    intro x hx
    rw [List.eq_nil_of_length_eq_zero hz] at hx
    cases hx
/-- The reference finds the program's error in every part. -/
theorem rkE_ck : ∀ n p inn names par t, rkPt p < n → (∀ x, p = .inl x → inn = (par == 12) ∧ ∀ f ∈ x.funcs, nmF names f = !(badL t f)) → rkE n p inn names = ckE n p par t
  | 0, _, _, _, _, _, h, _ => by omega
  | n + 1, .inl x, inn, names, par, t, h, hx => by
    obtain ⟨h1, h2⟩ := hx x rfl
    show fe _ = fe _
    rw [rxE_ce x inn names par t h1 h2]
    congr 2
    congr 1
    · exact List.map_congr_left fun y hy => rkE_ck n (.inl y) _ _ _ _ (by have := arg_rk hy; omega) fun z hz => ⟨rfl, fun f _ => fit_zero f⟩
    · exact List.map_congr_left fun f hf => rkE_ck n (.inr ⟨f.bA, f.bC, f.body⟩) _ _ _ _ (by have := fun_rk hf; show rkPt (.inr (bodyB f)) < n; omega) fun z hz => by cases hz
  | n + 1, .inr y, inn, names, par, t, h, _ => by
    show fe _ = fe _
    congr 1
    apply List.ext_getElem
    · simp
    · intro i hi1 hi2
      have hl : i < y.l.length := by simpa using hi1
      rw [List.getElem_mapIdx, List.getElem_mapIdx]
      have hs := stat_rk (List.getElem_mem hl)
      generalize y.l[i] = s at hs ⊢
      generalize ((i : Int) == (y.l.length : Int) - 1) = last
      by_cases hc : csE s last = 0
      · have hk := side_k (csE_form hc).1
        have e1 : s.left.map (fun x => rkE n (.inl x) false [⟨#[]⟩]) = s.left.map (fun x => ckE n (.inl x) 0 (tiP s)) := List.map_congr_left fun x hx => by
          rw [rkE_ck n (.inl x) false [⟨#[]⟩] 0 T0 (by have := part_rk (s := s) (p := .inl x) (by rw [parts_rest]; exact List.mem_append_left _ (List.mem_map_of_mem hx)); omega) fun z hz => ⟨rfl, fun f _ => fit_zero f⟩]
          exact ckE_side (hk x hx) n 0 T0 (tiP s)
        rw [e1, parts_rest, List.map_append, List.map_map]
        show fe (csE s last :: (s.left.map (fun x => ckE n (.inl x) 0 (tiP s)) ++ _)) = fe (csE s last :: (s.left.map (fun x => ckE n (.inl x) 0 (tiP s)) ++ _))
        show (if csE s last = 0 then fe _ else _) = (if csE s last = 0 then fe _ else _)
        rw [if_pos hc, if_pos hc, fe_app, fe_app]
        by_cases hl0 : fe (s.left.map (fun x => ckE n (.inl x) 0 (tiP s))) = 0
        · rw [if_pos hl0, if_pos hl0]
          have hz := fe_zero hl0
          congr 1
          exact List.map_congr_left fun p hp => rkE_ck n p _ _ _ _ (by have := part_rk (s := s) (p := p) (by rw [parts_rest]; exact List.mem_append_right _ hp); omega) fun z hz2 => ⟨rfl, fun f _ => al_fits s last n hc (fun x hx => hz _ (List.mem_map_of_mem (f := fun x => ckE n (.inl x) 0 (tiP s)) hx)) (fun x hx => by have := part_rk (s := s) (p := .inl x) (by rw [parts_rest]; exact List.mem_append_left _ (List.mem_map_of_mem hx)); have e : rkPt (.inl x) = rkX x := rfl; omega) f⟩
        · rw [if_neg hl0, if_neg hl0]
      · show (if csE s last = 0 then fe _ else _) = (if csE s last = 0 then fe _ else _)
        rw [if_neg hc, if_neg hc]
/-- The error of a block's parts, as the reference finds it. -/
theorem rkE_block (y : TB) : rkE (rkB y + 1) (.inr y) false [⟨#[]⟩] = cbE y := rkE_ck _ (.inr y) _ _ _ _ (Nat.lt_succ_self _) fun _ h => by cases h
end Go.Proofs.YthkpggpnbdedjaaGreat

/- The reference's Left, Colon and allowed: the names that a function may have. -/
namespace Go.Proofs.YthkpggpnbdedjaaGreat
open Go.RowKit Go.Instr Go.Shelf
set_option linter.unusedVariables false

theorem left_sz : ∀ n x, (sideN n x).1.size ≤ rkX x
  | 0, _ => Nat.zero_le _
  | n + 1, x => by
    rw [rkX_eq]
    unfold sideN
    split
    · show x.s.size ≤ _
      omega
    · split
      · rename_i a b _ h
        split
        · have := left_sz n a
          have hx : rkXs [a, b] = rkX a + (rkX b + 0) := rfl
          have hb := rkX_eq b
          rw [h]
          show ((sideN n a).1 ++ ⟨#[46]⟩ ++ b.s).size ≤ _
          rw [ByteArray.size_append, ByteArray.size_append]
          show (sideN n a).1.size + 1 + b.s.size ≤ _
          omega
        · exact Nat.zero_le _
      · exact Nat.zero_le _
theorem two_args {x : TX} (hl : x.args.length = 2) : ∃ a b, x.args = [a, b] := by
  match hx : x.args with
  | [a, b] => exact ⟨a, b, rfl⟩
  | [] => rw [hx] at hl; cases hl
  | [_] => rw [hx] at hl; cases hl
  | _ :: _ :: _ :: _ => rw [hx] at hl; simp at hl
/-- What Left answers. -/
abbrev LeS (n : Nat) : Prop := ∀ (x : TX) (w : World), rkX x < n → rkX x ≤ 1048600 → InX w w.heap.size x → Calls Tryz.prog 78 #[x.v] w fun e w' => e = .returned (.tuple #[.string (sideN n x).1, .bool (sideN n x).2]) ∧ Below w.heap.size w w'
set_option maxRecDepth 100000 in
set_option maxHeartbeats 8000000 in
theorem left_step (n : Nat) (hP : LeS n) : LeS (n + 1) := by
  intro x w hrk hrm hin
  obtain ⟨L, hL⟩ : ∃ L, (sideN (n + 1) x).1 = L := ⟨_, rfl⟩
  obtain ⟨B, hB⟩ : ∃ B, (sideN (n + 1) x).2 = B := ⟨_, rfl⟩
  rw [hL, hB]
  by_cases h7 : x.k = 7
  · have e : sideN (n + 1) x = (x.s, true) := by unfold sideN; rw [if_pos h7]
    rw [e] at hL hB
    subst hL hB
    have d7 : (x.k == 7) = true := by simpa using h7
    clear hin hP e h7
    go_enter Tryz.func78, Tryz.ntmps78
    go_wp2_with fail
    go_returns
    exact ⟨rfl, by (repeat' (first | (with_reducible exact Below.refl _ _) | (with_reducible assumption) | (with_reducible refine Below.alloc ?_ ?_ _) | (with_reducible refine below_drewN ?_ _) | (with_reducible refine Below.drew ?_) | (with_reducible refine Below.setCell ?_ ?_ _) | (with_reducible refine below_via (by assumption) ?_ ?_) | (with_reducible refine below_via (later_below _) ?_ ?_) | (with_reducible exact Nat.le_refl _) | omega | (simp; omega) | (simp; done)))⟩
  · have d7 : (x.k == 7) = false := by simpa using h7
    by_cases h8 : x.k = 8
    · have d8 : (x.k != 8) = false := by simp [h8]
      have d8' : (x.k == 8) = true := by simpa using h8
      by_cases hl : x.args.length = 2
      · obtain ⟨a, b, hab⟩ := two_args hl
        have e : sideN (n + 1) x = if b.k = 5 ∧ nameB b.s.data.toList = true then ((sideN n a).1 ++ ⟨#[46]⟩ ++ b.s, (sideN n a).2) else (⟨#[]⟩, false) := by
          show (if x.k = 7 then _ else match x.k == 8, x.args with | true, [a, b] => _ | _, _ => _) = _
          rw [if_neg h7, d8', hab]
        rw [e] at hL hB
        rw [rkX_eq, hab] at hrk hrm
        have hra : rkXs [a, b] = rkX a + (rkX b + 0) := rfl
        have hrb := rkX_eq b
        have hxs := hin.xs
        obtain ⟨b1, o1, ha1, hb1, hc0, hia⟩ := hxs.at_ (k := 0) (by omega)
        obtain ⟨b2, o2, ha2, hb2, hc1, hib⟩ := hxs.at_ (k := 1) (by omega)
        rw [ha1] at ha2
        injection ha2 with ha2
        injection ha2 with q1 q2
        subst q1 q2
        have ea : x.args[0] = a := by simp [hab]
        have eb : x.args[1] = b := by simp [hab]
        rw [ea] at hc0 hia
        rw [eb] at hc1 hib
        obtain ⟨c0, c1, c2, c3, c4, c5, c6, c7⟩ := hc0
        obtain ⟨e0, e1, e2, e3, e4, e5, e6, e7⟩ := hc1
        have hbl := cell_lt c0
        have hbs := ((inX_iff b).1 hib).1.si
        have hxl := ((inX_iff x).1 hin).1.ai
        have HIA := Lib.hid hia
        rw [Nat.zero_mul, Nat.add_zero] at c0 c1 c2 c3 c4 c5 c6 c7
        rw [Nat.one_mul] at e0 e1 e2 e3 e4 e5 e6 e7
        obtain ⟨hx1, hx2, -⟩ := hxl
        clear hxs hib ea eb hin
        have d5 : (x.args.length : Int) = 2 := by omega
        by_cases h5 : b.k = 5
        · have t5 : (b.k != 5) = false := by simp [h5]
          have HN : Hid (∀ W, Calls Tryz.prog 74 #[.string b.s] W fun e W' => e = .returned (.bool (nameB b.s.data.toList)) ∧ W = W') := fun W => r3name_any b.s W hbs
          obtain ⟨nb, hnb⟩ : ∃ q, nameB b.s.data.toList = q := ⟨_, rfl⟩
          rw [hnb] at HN hL hB
          cases nb with
          | false =>
            rw [if_neg (by simp)] at hL hB
            subst hL hB
            clear hP h5 h7 h8 e hnb hra hrk hrm hrb hab d5
            go_enter Tryz.func78, Tryz.ntmps78
            go_wp2_with (go_at_call 74; (with_reducible refine (HN.out _).mono ?_); rintro e w3 ⟨rfl, rfl⟩)
            go_returns
            exact ⟨rfl, by (repeat' (first | (with_reducible exact Below.refl _ _) | (with_reducible assumption) | (with_reducible refine Below.alloc ?_ ?_ _) | (with_reducible refine below_drewN ?_ _) | (with_reducible refine Below.drew ?_) | (with_reducible refine Below.setCell ?_ ?_ _) | (with_reducible refine below_via (by assumption) ?_ ?_) | (with_reducible refine below_via (later_below _) ?_ ?_) | (with_reducible exact Nat.le_refl _) | omega | (simp; omega) | (simp; done)))⟩
          | true =>
            rw [if_pos ⟨h5, rfl⟩] at hL hB
            have HPa : Hid (∀ W, Below w.heap.size w W → Calls Tryz.prog 78 #[a.v] W fun e w' => e = .returned (.tuple #[.string (sideN n a).1, .bool (sideN n a).2]) ∧ Below W.heap.size W w') := fun W hW =>
              hP a W (by omega) (by omega) (HIA.out.still (still_of hW (Nat.le_refl _)) hW.size)
            have hpl := left_sz n a
            have hps : (sideN n a).1.size ≤ 1048600 := by omega
            have hbs2 : b.s.size ≤ 1048600 := by omega
            obtain ⟨p1, hp1⟩ : ∃ p, (sideN n a).1 = p := ⟨_, rfl⟩
            obtain ⟨p2, hp2⟩ : ∃ p, (sideN n a).2 = p := ⟨_, rfl⟩
            rw [hp1] at HPa hL hps
            rw [hp2] at HPa hB
            subst hL hB
            clear hP h5 h7 h8 e hnb hra hrk hrm hrb hab hp1 hp2 HIA d5 hpl
            go_enter Tryz.func78, Tryz.ntmps78
            go_wp2_with (first | (go_at_call 74; (with_reducible refine (HN.out _).mono ?_); rintro e w3 ⟨rfl, rfl⟩) | (go_at_call 78; (with_reducible refine (HPa.out _ ?_).mono ?_); (focus ((repeat' (first | (with_reducible exact Below.refl _ _) | (with_reducible assumption) | (with_reducible refine Below.alloc ?_ ?_ _) | (with_reducible refine below_drewN ?_ _) | (with_reducible refine Below.drew ?_) | (with_reducible refine Below.setCell ?_ ?_ _) | (with_reducible refine below_via (by assumption) ?_ ?_) | (with_reducible refine below_via (later_below _) ?_ ?_) | (with_reducible exact Nat.le_refl _) | omega | (simp; omega) | (simp; done))))); rintro e w4 ⟨rfl, hb⟩; (refine mem hb ?_; intro N hN hz hc hf; (try simp at hN); subst hN)))
            go_returns
            exact ⟨rfl, by (repeat' (first | (with_reducible exact Below.refl _ _) | (with_reducible assumption) | (with_reducible refine Below.alloc ?_ ?_ _) | (with_reducible refine below_drewN ?_ _) | (with_reducible refine Below.drew ?_) | (with_reducible refine Below.setCell ?_ ?_ _) | (with_reducible refine below_via (by assumption) ?_ ?_) | (with_reducible refine below_via (later_below _) ?_ ?_) | (with_reducible exact Nat.le_refl _) | omega | (simp; omega) | (simp; done)))⟩
        · have t5 : (b.k != 5) = true := by simpa using h5
          rw [if_neg (by simp [h5])] at hL hB
          subst hL hB
          clear hP h5 h7 h8 e hra hrk hrm hrb hab d5
          go_enter Tryz.func78, Tryz.ntmps78
          go_wp2_with fail
          go_returns
          exact ⟨rfl, by (repeat' (first | (with_reducible exact Below.refl _ _) | (with_reducible assumption) | (with_reducible refine Below.alloc ?_ ?_ _) | (with_reducible refine below_drewN ?_ _) | (with_reducible refine Below.drew ?_) | (with_reducible refine Below.setCell ?_ ?_ _) | (with_reducible refine below_via (by assumption) ?_ ?_) | (with_reducible refine below_via (later_below _) ?_ ?_) | (with_reducible exact Nat.le_refl _) | omega | (simp; omega) | (simp; done)))⟩
      · have e : sideN (n + 1) x = (⟨#[]⟩, false) := by
          unfold sideN
          rw [if_neg h7]
          split
          · rename_i h
            exact absurd (by rw [h]; rfl) hl
          · rfl
        rw [e] at hL hB
        subst hL hB
        have dl : ((x.args.length : Int) != 2) = true := by simp; omega
        have hxl := ((inX_iff x).1 hin).1.ai
        obtain ⟨hx1, hx2, -⟩ := hxl
        have hal : (x.args.length : Int) ≤ 9223372036854775807 := by omega
        clear hin hP e h7 h8
        go_enter Tryz.func78, Tryz.ntmps78
        go_wp2_with fail
        go_returns
        exact ⟨rfl, by (repeat' (first | (with_reducible exact Below.refl _ _) | (with_reducible assumption) | (with_reducible refine Below.alloc ?_ ?_ _) | (with_reducible refine below_drewN ?_ _) | (with_reducible refine Below.drew ?_) | (with_reducible refine Below.setCell ?_ ?_ _) | (with_reducible refine below_via (by assumption) ?_ ?_) | (with_reducible refine below_via (later_below _) ?_ ?_) | (with_reducible exact Nat.le_refl _) | omega | (simp; omega) | (simp; done)))⟩
    · have d8 : (x.k != 8) = true := by simpa using h8
      have e : sideN (n + 1) x = (⟨#[]⟩, false) := by
        unfold sideN
        rw [if_neg h7, show (x.k == 8) = false by simpa using h8]
      rw [e] at hL hB
      subst hL hB
      clear hin hP e h7 h8
      go_enter Tryz.func78, Tryz.ntmps78
      go_wp2_with fail
      go_returns
      exact ⟨rfl, by (repeat' (first | (with_reducible exact Below.refl _ _) | (with_reducible assumption) | (with_reducible refine Below.alloc ?_ ?_ _) | (with_reducible refine below_drewN ?_ _) | (with_reducible refine Below.drew ?_) | (with_reducible refine Below.setCell ?_ ?_ _) | (with_reducible refine below_via (by assumption) ?_ ?_) | (with_reducible refine below_via (later_below _) ?_ ?_) | (with_reducible exact Nat.le_refl _) | omega | (simp; omega) | (simp; done)))⟩
theorem left_all : ∀ n, LeS n
  | 0 => fun _ _ h => by omega
  | n + 1 => left_step n (left_all n)
theorem left_any (x : TX) (w : World) (hr : rkX x ≤ 1048600) (hin : InX w w.heap.size x) : Calls Tryz.prog 78 #[x.v] w fun e w' => e = .returned (.tuple #[.string (sideN (rkX x + 1) x).1, .bool (sideN (rkX x + 1) x).2]) ∧ Below w.heap.size w w' := left_all _ x w (Nat.lt_succ_self _) hr hin

set_option maxRecDepth 100000 in
set_option maxHeartbeats 4000000 in
theorem colon_any (x : TX) (w : World) (hl : x.args.length = 2) (hr : rkX x ≤ 1048600) (hin : InX w w.heap.size x) : Calls Tryz.prog 79 #[x.v] w fun e w' => e = .returned (.string (colonN x)) ∧ Below w.heap.size w w' := by
  obtain ⟨a, b, hab⟩ := two_args hl
  have e : colonN x = (sideN (rkX a + 1) a).1 ++ ⟨#[58]⟩ ++ b.s := by unfold colonN; rw [hab]
  rw [e]
  rw [rkX_eq, hab] at hr
  have hra : rkXs [a, b] = rkX a + (rkX b + 0) := rfl
  have hrb := rkX_eq b
  have hxs := hin.xs
  obtain ⟨b1, o1, ha1, hb1, hc0, hia⟩ := hxs.at_ (k := 0) (by omega)
  obtain ⟨b2, o2, ha2, hb2, hc1, hib⟩ := hxs.at_ (k := 1) (by omega)
  rw [ha1] at ha2
  injection ha2 with ha2
  injection ha2 with q1 q2
  subst q1 q2
  have ea : x.args[0] = a := by simp [hab]
  have eb : x.args[1] = b := by simp [hab]
  rw [ea] at hc0 hia
  rw [eb] at hc1 hib
  obtain ⟨c0, c1, c2, c3, c4, c5, c6, c7⟩ := hc0
  obtain ⟨e0, e1, e2, e3, e4, e5, e6, e7⟩ := hc1
  have hbl := cell_lt c0
  have hxl := ((inX_iff x).1 hin).1.ai
  have HIA := Lib.hid hia
  rw [Nat.zero_mul, Nat.add_zero] at c0 c1 c2 c3 c4 c5 c6 c7
  rw [Nat.one_mul] at e0 e1 e2 e3 e4 e5 e6 e7
  obtain ⟨hx1, hx2, -⟩ := hxl
  have d5 : (x.args.length : Int) = 2 := by omega
  have HPa : Hid (∀ W, Below w.heap.size w W → Calls Tryz.prog 78 #[a.v] W fun e w' => e = .returned (.tuple #[.string (sideN (rkX a + 1) a).1, .bool (sideN (rkX a + 1) a).2]) ∧ Below W.heap.size W w') := fun W hW =>
    left_any a W (by omega) (HIA.out.still (still_of hW (Nat.le_refl _)) hW.size)
  have hpl := left_sz (rkX a + 1) a
  have hps : (sideN (rkX a + 1) a).1.size ≤ 1048600 := by omega
  have hbs2 : b.s.size ≤ 1048600 := by omega
  obtain ⟨p1, hp1⟩ : ∃ p, (sideN (rkX a + 1) a).1 = p := ⟨_, rfl⟩
  obtain ⟨p2, hp2⟩ : ∃ p, (sideN (rkX a + 1) a).2 = p := ⟨_, rfl⟩
  rw [hp1] at HPa hps ⊢
  rw [hp2] at HPa
  clear hxs hib ea eb hin e hra hrb hab hp1 hp2 HIA hpl hr
  go_enter Tryz.func79, Tryz.ntmps79
  go_wp2_with (go_at_call 78; (with_reducible refine (HPa.out _ ?_).mono ?_); (focus ((repeat' (first | (with_reducible exact Below.refl _ _) | (with_reducible assumption) | (with_reducible refine Below.alloc ?_ ?_ _) | (with_reducible refine below_drewN ?_ _) | (with_reducible refine Below.drew ?_) | (with_reducible refine Below.setCell ?_ ?_ _) | (with_reducible refine below_via (by assumption) ?_ ?_) | (with_reducible refine below_via (later_below _) ?_ ?_) | (with_reducible exact Nat.le_refl _) | omega | (simp; omega) | (simp; done))))); rintro e w4 ⟨rfl, hb⟩; (refine mem hb ?_; intro N hN hz hc hf; (try simp at hN); subst hN))
  go_returns
  exact ⟨rfl, by (repeat' (first | (with_reducible exact Below.refl _ _) | (with_reducible assumption) | (with_reducible refine Below.alloc ?_ ?_ _) | (with_reducible refine below_drewN ?_ _) | (with_reducible refine Below.drew ?_) | (with_reducible refine Below.setCell ?_ ?_ _) | (with_reducible refine below_via (by assumption) ?_ ?_) | (with_reducible refine below_via (later_below _) ?_ ?_) | (with_reducible exact Nat.le_refl _) | omega | (simp; omega) | (simp; done)))⟩

/-- What allowed answers: a row of its own. -/
abbrev AlS (s : TS) : Prop := ∀ w, InS w w.heap.size s → Calls Tryz.prog 53 #[s.v] w fun e w' => ∃ v, e = .returned v ∧ Buf w w.heap.size 9 v (strsV (alS s)) w'
set_option maxRecDepth 100000 in
theorem allowed_2 (s : TS) (h2 : s.k = 2) (hl : s.names.length = 1) : AlS s := by
  intro w hin
  obtain ⟨x, hx⟩ : ∃ x, s.names = [x] := by
    match h : s.names with
    | [x] => exact ⟨x, rfl⟩
    | [] => rw [h] at hl; cases hl
    | _ :: _ :: _ => rw [h] at hl; simp at hl
  have ht : alS s = [x.1] := by unfold alS; rw [if_pos h2, hx]; rfl
  rw [ht]
  have d2 : (s.k == 2) = true := by simpa using h2
  have dl : (s.names.length : Int) = 1 := by omega
  have hS := ((inS_iff s).1 hin).1
  obtain ⟨b, o, ha, hb, hc⟩ := hS.nAt.resolve_left (by omega)
  have hc0 := hc 0 (by omega)
  rw [Nat.zero_mul, Nat.add_zero, show s.names[0] = x by simp [hx]] at hc0
  obtain ⟨c0, c1⟩ := hc0
  clear hin ht h2 hS hc hx
  go_enter Tryz.func53, Tryz.ntmps53
  go_wp2_with fail
  go_returns
  refine ⟨_, rfl, ?_⟩
  have h := Buf.lit w (w.alloc (.cells #[.int .i64 s.k, .int .i64 s.ln, .slice s.nA s.names.length s.nC, .slice s.lA s.left.length s.lC, .slice s.rA s.right.length s.rC, .slice s.bA s.blocks.length s.bC, .string s.label] 40)) w.heap.size 9 [.string x.1] (by (repeat' (first | (with_reducible exact Below.refl _ _) | (with_reducible assumption) | (with_reducible refine Below.alloc ?_ ?_ _) | (with_reducible refine below_drewN ?_ _) | (with_reducible refine Below.drew ?_) | (with_reducible refine Below.setCell ?_ ?_ _) | (with_reducible refine below_via (by assumption) ?_ ?_) | (with_reducible refine below_via (later_below _) ?_ ?_) | (with_reducible exact Nat.le_refl _) | omega | (simp; omega) | (simp; done)))) (by simp) (by unfold maxLen; simp)
  rw [ha, hl] at h
  simpa [strsV] using h
theorem alS_one {s : TS} (h2 : s.k ≠ 2) (h : s.k ≠ 3 ∨ s.left.length ≠ 1 ∨ s.right.length ≠ 1) : alS s = [⟨#[]⟩] := by
  unfold alS
  rw [if_neg h2]
  split
  · rename_i x h3 hl hr
    rcases h with h | h | h
    · exact absurd (by simpa using h3) h
    · exact absurd (by rw [hl]; rfl) h
    · exact absurd hr h
  · rfl
set_option maxRecDepth 100000 in
theorem allowed_n (s : TS) (h2 : s.k ≠ 2) (h : s.k ≠ 3 ∨ s.left.length ≠ 1 ∨ s.right.length ≠ 1) : AlS s := by
  intro w hin
  rw [alS_one h2 h]
  have d2 : (s.k == 2) = false := by simpa using h2
  have hS := ((inS_iff s).1 hin).1
  obtain ⟨n1, n2, -⟩ := hS.li
  obtain ⟨n3, n4, -⟩ := hS.ri
  have hE : ∀ k : Int, s.k = k ∨ True := fun _ => .inr trivial
  have hfin : Buf w w.heap.size 9 (.slice (some ⟨w.heap.size + 1, 0, none⟩) 1 1) (strsV [⟨#[]⟩]) ((w.alloc (.cells #[.int .i64 s.k, .int .i64 s.ln, .slice s.nA s.names.length s.nC, .slice s.lA s.left.length s.lC, .slice s.rA s.right.length s.rC, .slice s.bA s.blocks.length s.bC, .string s.label] 40)).alloc (.cells #[.string ⟨#[]⟩] 9)) := by
    have h := Buf.lit w (w.alloc (.cells #[.int .i64 s.k, .int .i64 s.ln, .slice s.nA s.names.length s.nC, .slice s.lA s.left.length s.lC, .slice s.rA s.right.length s.rC, .slice s.bA s.blocks.length s.bC, .string s.label] 40)) w.heap.size 9 [.string ⟨#[]⟩] (by (repeat' (first | (with_reducible exact Below.refl _ _) | (with_reducible assumption) | (with_reducible refine Below.alloc ?_ ?_ _) | (with_reducible refine below_drewN ?_ _) | (with_reducible refine Below.drew ?_) | (with_reducible refine Below.setCell ?_ ?_ _) | (with_reducible refine below_via (by assumption) ?_ ?_) | (with_reducible refine below_via (later_below _) ?_ ?_) | (with_reducible exact Nat.le_refl _) | omega | (simp; omega) | (simp; done)))) (by simp) (by unfold maxLen; simp)
    simpa [strsV] using h
  have HF := Lib.hid hfin
  clear hin h2 hS hfin hE
  by_cases h3 : s.k = 3
  · have d3 : (s.k != 3) = false := by simp [h3]
    by_cases hl : s.left.length = 1
    · have dl : ((s.left.length : Int) != 1) = false := by simp; omega
      have dr : ((s.right.length : Int) != 1) = true := by simp; omega
      have hh : s.right.length ≠ 1 := by omega
      clear h h3 hl
      go_enter Tryz.func53, Tryz.ntmps53
      go_wp2_with fail
      go_returns
      exact ⟨_, rfl, HF.out⟩
    · have dl : ((s.left.length : Int) != 1) = true := by simp; omega
      clear h h3
      go_enter Tryz.func53, Tryz.ntmps53
      go_wp2_with fail
      go_returns
      exact ⟨_, rfl, HF.out⟩
  · have d3 : (s.k != 3) = true := by simpa using h3
    clear h h3
    go_enter Tryz.func53, Tryz.ntmps53
    go_wp2_with fail
    go_returns
    exact ⟨_, rfl, HF.out⟩
set_option maxRecDepth 100000 in
set_option maxHeartbeats 8000000 in
theorem allowed_3 (s : TS) (h3 : s.k = 3) (hl : s.left.length = 1) (hr : s.right.length = 1) (hrk : rkS s ≤ 1048600) : AlS s := by
  intro w hin
  obtain ⟨i0, hi1, hz0, hz1, hz2⟩ := info_parts str_inf
  obtain ⟨x, hx⟩ : ∃ x, s.left = [x] := by
    match h : s.left with
    | [x] => exact ⟨x, rfl⟩
    | [] => rw [h] at hl; cases hl
    | _ :: _ :: _ => rw [h] at hl; simp at hl
  obtain ⟨J, hJ⟩ : ∃ L, (sideN (rkX x + 1) x).1 = L := ⟨_, rfl⟩
  obtain ⟨ok, hok⟩ : ∃ L, (sideN (rkX x + 1) x).2 = L := ⟨_, rfl⟩
  have ht : alS s = if ok = true then [⟨#[]⟩, J] ++ (if x.k = 8 then [colonN x] else []) else [⟨#[]⟩] := by
    unfold alS
    rw [if_neg (by omega), show (s.k == 3) = true by simpa using h3, hx, hr]
    show (if (sideN (rkX x + 1) x).2 = true then _ else _) = _
    rw [hJ, hok]
  have hrx : rkX x ≤ 1048600 := by
    rw [rkS_eq, hx] at hrk
    have h2 : rkXs [x] = rkX x + 0 := rfl
    omega
  have hsz : J.size ≤ 1048600 := by rw [← hJ]; exact Nat.le_trans (left_sz _ _) hrx
  have hix : ∀ W, Below w.heap.size w W → InX W W.heap.size x := fun W hW => ((inXs_iff _).1 hin.lf.2.2 x (by rw [hx]; exact List.mem_cons_self)).still (still_of hW (Nat.le_refl _)) hW.size
  have HP : Hid (∀ W, Below w.heap.size w W → Calls Tryz.prog 78 #[x.v] W fun e w' => e = .returned (.tuple #[.string J, .bool ok]) ∧ Below W.heap.size W w') := fun W hW => by
    rw [← hJ, ← hok]
    exact left_any x W hrx (hix W hW)
  have h8a : ok = true → x.k = 8 → x.args.length = 2 := fun h1 h2 => by
    rw [← hok] at h1
    unfold sideN at h1
    rw [if_neg (by omega)] at h1
    split at h1
    · rename_i a b _ h
      rw [h]; rfl
    · cases h1
  have HC : Hid (x.args.length = 2 → ∀ W, Below w.heap.size w W → Calls Tryz.prog 79 #[x.v] W fun e w' => e = .returned (.string (colonN x)) ∧ Below W.heap.size W w') := fun h W hW => colon_any x W h hrx (hix W hW)
  have H8A := Lib.hid h8a
  rw [ht]
  have d2 : (s.k == 2) = false := by rw [h3]; rfl
  have d3 : (s.k != 3) = false := by simp [h3]
  have hS := ((inS_iff s).1 hin).1
  obtain ⟨n1, n2, -⟩ := hS.li
  obtain ⟨n3, n4, -⟩ := hS.ri
  obtain ⟨b, o, ha, hb0, hc⟩ := hS.lAt.resolve_left (by omega)
  have hc0 := hc 0 (by omega)
  rw [Nat.zero_mul, Nat.add_zero, show s.left[0] = x by simp [hx]] at hc0
  obtain ⟨c0, c1, c2, c3, c4, c5, c6, c7⟩ := hc0
  have hbl := cell_lt c0
  have dl : (s.left.length : Int) = 1 := by omega
  have dr : (s.right.length : Int) = 1 := by omega
  have HL0 : Hid (∀ W, Below (w.heap.size + 1 + 1) ((w.alloc (.cells #[.int .i64 s.k, .int .i64 s.ln, .slice s.nA s.names.length s.nC, .slice s.lA s.left.length s.lC, .slice s.rA s.right.length s.rC, .slice s.bA s.blocks.length s.bC, .string s.label] 40)).alloc (.cells #[.string ⟨#[]⟩] 9)) W →
      Buf (w.alloc (.cells #[.int .i64 s.k, .int .i64 s.ln, .slice s.nA s.names.length s.nC, .slice s.lA s.left.length s.lC, .slice s.rA s.right.length s.rC, .slice s.bA s.blocks.length s.bC, .string s.label] 40)) (w.heap.size + 1) 9 (.slice (some ⟨w.heap.size + 1, 0, none⟩) 1 1) [.string ⟨#[]⟩] W) := fun W hW => by
    have h := Buf.lit (w.alloc (.cells #[.int .i64 s.k, .int .i64 s.ln, .slice s.nA s.names.length s.nC, .slice s.lA s.left.length s.lC, .slice s.rA s.right.length s.rC, .slice s.bA s.blocks.length s.bC, .string s.label] 40)) (w.alloc (.cells #[.int .i64 s.k, .int .i64 s.ln, .slice s.nA s.names.length s.nC, .slice s.lA s.left.length s.lC, .slice s.rA s.right.length s.rC, .slice s.bA s.blocks.length s.bC, .string s.label] 40)) (w.heap.size + 1) 9 [.string ⟨#[]⟩] (Below.refl _ _) (by simp) (by unfold maxLen; simp)
    have h2 := h.later (w' := W) (by simpa using hW)
    simpa using h2
  have HUP : Hid (∀ v xs W, Buf (w.alloc (.cells #[.int .i64 s.k, .int .i64 s.ln, .slice s.nA s.names.length s.nC, .slice s.lA s.left.length s.lC, .slice s.rA s.right.length s.rC, .slice s.bA s.blocks.length s.bC, .string s.label] 40)) (w.heap.size + 1) 9 v xs W → Buf w w.heap.size 9 v xs W) := fun v xs W h => h.up (by omega) (by (repeat' (first | (with_reducible exact Below.refl _ _) | (with_reducible assumption) | (with_reducible refine Below.alloc ?_ ?_ _) | (with_reducible refine below_drewN ?_ _) | (with_reducible refine Below.drew ?_) | (with_reducible refine Below.setCell ?_ ?_ _) | (with_reducible refine below_via (by assumption) ?_ ?_) | (with_reducible refine below_via (later_below _) ?_ ?_) | (with_reducible exact Nat.le_refl _) | omega | (simp; omega) | (simp; done))))
  have HBW : Hid (∀ v xs W, Buf (w.alloc (.cells #[.int .i64 s.k, .int .i64 s.ln, .slice s.nA s.names.length s.nC, .slice s.lA s.left.length s.lC, .slice s.rA s.right.length s.rC, .slice s.bA s.blocks.length s.bC, .string s.label] 40)) (w.heap.size + 1) 9 v xs W → Below (w.alloc (.cells #[.int .i64 s.k, .int .i64 s.ln, .slice s.nA s.names.length s.nC, .slice s.lA s.left.length s.lC, .slice s.rA s.right.length s.rC, .slice s.bA s.blocks.length s.bC, .string s.label] 40)).heap.size (w.alloc (.cells #[.int .i64 s.k, .int .i64 s.ln, .slice s.nA s.names.length s.nC, .slice s.lA s.left.length s.lC, .slice s.rA s.right.length s.rC, .slice s.bA s.blocks.length s.bC, .string s.label] 40)) W) := fun v xs W h => h.2.1.mono (by simp)
  rw [ha] at HL0 HUP HBW
  clear hin ht h3 hS hJ hok hc hrk hrx hix h8a hx hl hr
  cases ok with
  | false =>
    rw [if_neg (by simp)]
    go_enter Tryz.func53, Tryz.ntmps53
    go_wp2_with (go_at_call 78; (with_reducible refine (HP.out _ ?_).mono ?_); (focus ((repeat' (first | (with_reducible exact Below.refl _ _) | (with_reducible assumption) | (with_reducible refine Below.alloc ?_ ?_ _) | (with_reducible refine below_drewN ?_ _) | (with_reducible refine Below.drew ?_) | (with_reducible refine Below.setCell ?_ ?_ _) | (with_reducible refine below_via (by assumption) ?_ ?_) | (with_reducible refine below_via (later_below _) ?_ ?_) | (with_reducible exact Nat.le_refl _) | omega | (simp; omega) | (simp; done))))); rintro e w4 ⟨rfl, hb⟩; have hb4 := hb; (refine mem hb ?_; intro N hN hz hc hf; (try simp at hN); subst hN))
    go_returns
    exact ⟨_, rfl, HUP.out _ _ _ (HL0.out _ (by simpa using hb4))⟩
  | true =>
    rw [if_pos rfl]
    by_cases h8 : x.k = 8
    · rw [if_pos h8]
      have d8 : (x.k == 8) = true := by simpa using h8
      have HC8 := Lib.hid (HC.out (H8A.out rfl h8))
      obtain ⟨M, hM⟩ : ∃ M, colonN x = M := ⟨_, rfl⟩
      rw [hM] at HC8 ⊢
      clear HC H8A h8 hM
      go_enter Tryz.func53, Tryz.ntmps53
      go_wp2_with (first | (go_at_call 78; (with_reducible refine (HP.out _ ?_).mono ?_); (focus ((repeat' (first | (with_reducible exact Below.refl _ _) | (with_reducible assumption) | (with_reducible refine Below.alloc ?_ ?_ _) | (with_reducible refine below_drewN ?_ _) | (with_reducible refine Below.drew ?_) | (with_reducible refine Below.setCell ?_ ?_ _) | (with_reducible refine below_via (by assumption) ?_ ?_) | (with_reducible refine below_via (later_below _) ?_ ?_) | (with_reducible exact Nat.le_refl _) | omega | (simp; omega) | (simp; done))))); rintro e w4 ⟨rfl, hb⟩; have HB1 := Lib.hid (HL0.out _ (by simpa using hb)); (refine mem hb ?_; intro N hN hz hc hf; (try simp at hN); subst hN)) | (go_at_call 79; (with_reducible refine (HC8.out _ ?_).mono ?_); (focus ((repeat' (first | (with_reducible exact Below.refl _ _) | (with_reducible assumption) | (with_reducible refine Below.alloc ?_ ?_ _) | (with_reducible refine below_drewN ?_ _) | (with_reducible refine Below.drew ?_) | (with_reducible refine Below.setCell ?_ ?_ _) | (with_reducible refine below_via (by assumption) ?_ ?_) | (with_reducible refine below_via (later_below _) ?_ ?_) | (with_reducible exact Nat.le_refl _) | omega | (simp; omega) | (simp; done))))); rintro e w6 ⟨rfl, hb⟩; have HB3 := Lib.hid (HB2.out.later hb); (refine mem hb ?_; intro N hN hz hc hf; (try simp at hN); subst hN)) | (at_builtin; refine wp_lit rfl _ _ 48 rfl 9 i0 (.string ⟨#[]⟩) 16 Tryz.underlying48 hi1 hz0 hz1 hz2 rfl _ _ _ _ HB3.out rfl ?_ ?_ ?_ ?_ ?_; (focus exact ⟨_, _, rfl, by first | rfl | simp⟩); (focus (simp [Value.oneCell'])); (focus (unfold maxLen; first | (simp; done) | (simp; omega))); (focus (first | (simp; done) | (simp; omega))); intro v' w' hb') | (at_builtin; refine wp_lit rfl _ _ 48 rfl 9 i0 (.string ⟨#[]⟩) 16 Tryz.underlying48 hi1 hz0 hz1 hz2 rfl _ _ _ _ HB1.out rfl ?_ ?_ ?_ ?_ ?_; (focus exact ⟨_, _, rfl, by first | rfl | simp⟩); (focus (simp [Value.oneCell'])); (focus (unfold maxLen; first | (simp; done) | (simp; omega))); (focus (first | (simp; done) | (simp; omega))); intro v2 w5 hb'; have HB2 := Lib.hid hb'; have hb := HBW.out _ _ _ hb'; clear hb'; (refine mem hb ?_; intro N hN hz hc hf; (try simp at hN); subst hN)))
      go_returns
      exact ⟨_, rfl, HUP.out _ _ _ hb'⟩
    · rw [if_neg h8]
      have d8 : (x.k == 8) = false := by simpa using h8
      clear HC H8A h8
      go_enter Tryz.func53, Tryz.ntmps53
      go_wp2_with (first | (go_at_call 78; (with_reducible refine (HP.out _ ?_).mono ?_); (focus ((repeat' (first | (with_reducible exact Below.refl _ _) | (with_reducible assumption) | (with_reducible refine Below.alloc ?_ ?_ _) | (with_reducible refine below_drewN ?_ _) | (with_reducible refine Below.drew ?_) | (with_reducible refine Below.setCell ?_ ?_ _) | (with_reducible refine below_via (by assumption) ?_ ?_) | (with_reducible refine below_via (later_below _) ?_ ?_) | (with_reducible exact Nat.le_refl _) | omega | (simp; omega) | (simp; done))))); rintro e w4 ⟨rfl, hb⟩; have HB1 := Lib.hid (HL0.out _ (by simpa using hb)); (refine mem hb ?_; intro N hN hz hc hf; (try simp at hN); subst hN)) | (at_builtin; refine wp_lit rfl _ _ 48 rfl 9 i0 (.string ⟨#[]⟩) 16 Tryz.underlying48 hi1 hz0 hz1 hz2 rfl _ _ _ _ HB1.out rfl ?_ ?_ ?_ ?_ ?_; (focus exact ⟨_, _, rfl, by first | rfl | simp⟩); (focus (simp [Value.oneCell'])); (focus (unfold maxLen; first | (simp; done) | (simp; omega))); (focus (first | (simp; done) | (simp; omega))); intro v2 w5 hb'; have HB2 := Lib.hid hb'; have hb := HBW.out _ _ _ hb'; clear hb'; (refine mem hb ?_; intro N hN hz hc hf; (try simp at hN); subst hN)))
      go_returns
      exact ⟨_, rfl, HUP.out _ _ _ HB2.out⟩
theorem allowed_any (s : TS) (h1 : s.k = 2 → s.names.length = 1) (hrk : rkS s ≤ 1048600) : AlS s := by
  by_cases h2 : s.k = 2
  · exact allowed_2 s h2 (h1 h2)
  · by_cases h3 : s.k = 3
    · by_cases hl : s.left.length = 1
      · by_cases hr : s.right.length = 1
        · exact allowed_3 s h3 hl hr hrk
        · exact allowed_n s h2 (.inr (.inr hr))
      · exact allowed_n s h2 (.inr (.inl hl))
    · exact allowed_n s h2 (.inl h3)
end Go.Proofs.YthkpggpnbdedjaaGreat

/- The reference's exprs, expr and block, each over the parts below it. -/
namespace Go.Proofs.YthkpggpnbdedjaaGreat
open Go.RowKit Go.Instr Go.Shelf
set_option linter.unusedVariables false

abbrev RX (n : Nat) : Prop := ∀ (x : TX) (inn : Bool) (an : Option Addr) (cn : Nat) (names : List ByteArray) (N : Nat) (w : World), rkX x < n → rkX x ≤ 1048600 → InX w w.heap.size x → Slc an names.length cn → PsAt w N an names → N ≤ w.heap.size → (∀ s ∈ names, s.size ≤ 9223372036854775807) →
  Calls Tryz.prog 52 #[x.v, .bool inn, .slice an names.length cn] w fun e w' => e = .returned (.int .i64 (rkE n (.inl x) inn names)) ∧ Below w.heap.size w w'
abbrev RL (n : Nat) : Prop := ∀ (l : List TX) (a : Option Addr) (c : Nat) (inn : Bool) (an : Option Addr) (cn : Nat) (names : List ByteArray) (N : Nat) (w : World), (∀ x ∈ l, rkX x < n ∧ rkX x ≤ 1048600) → XsOk w w.heap.size a c l → Slc an names.length cn → PsAt w N an names → N ≤ w.heap.size → (∀ s ∈ names, s.size ≤ 9223372036854775807) →
  Calls Tryz.prog 51 #[.slice a l.length c, .bool inn, .slice an names.length cn] w fun e w' => e = .returned (.int .i64 (fe (l.map fun y => rkE n (.inl y) inn names))) ∧ Below w.heap.size w w'
abbrev RB (n : Nat) : Prop := ∀ (y : TB) (w : World), rkB y < n → rkB y ≤ 1048600 → InB w w.heap.size y →
  Calls Tryz.prog 21 #[y.v] w fun e w' => e = .returned (.int .i64 (rkE n (.inr y) false [⟨#[]⟩])) ∧ Below w.heap.size w w'
/-- The error of a statement and its parts. -/
def stE (n : Nat) (s : TS) (last : Bool) : Int := fe (csE s last :: (s.left.map (fun x => rkE n (.inl x) false [⟨#[]⟩]) ++ (restS s).map fun p => rkE n p false (alS s)))
abbrev RS (n : Nat) : Prop := ∀ (s : TS) (last : Bool) (w : World), rkS s ≤ n → rkS s ≤ 1048600 → InS w w.heap.size s →
  Calls Tryz.prog 37 #[s.v, .bool last] w fun e w' => e = .returned (.int .i64 (stE n s last)) ∧ Below w.heap.size w w'

set_option maxHeartbeats 3200000 in
set_option maxRecDepth 100000 in
theorem rl_step (n : Nat) (hX : RX n) : RL n := by
  intro l a c inn an cn names N w hrk hok hsn hn hN hz
  obtain ⟨U, hU⟩ : ∃ U, l.map (fun y => rkE n (.inl y) inn names) = U := ⟨_, rfl⟩
  have hUl : U.length = l.length := by rw [← hU, List.length_map]
  have HA : Hid (∀ k (h : k < l.length) W, Below w.heap.size w W → Calls Tryz.prog 52 #[(l[k]).v, .bool inn, .slice an names.length cn] W fun e w' => e = .returned (.int .i64 (U[k]'(by omega))) ∧ Below W.heap.size W w') := fun k h W hW => by
    have e : U[k]'(by omega) = rkE n (.inl l[k]) inn names := by subst hU; rw [List.getElem_map]
    rw [e]
    exact hX _ inn an cn names N W (hrk _ (List.getElem_mem h)).1 (hrk _ (List.getElem_mem h)).2 (((inXs_iff _).1 hok.2.2 _ (List.getElem_mem h)).still (still_of hW (Nat.le_refl _)) hW.size) hsn (hn.still (p1_still (still_of hW hN)) (Nat.le_refl _)) (Nat.le_trans hN hW.size) hz
  rw [hU]
  have HO := Lib.hid hok
  obtain ⟨i1, i2, -⟩ := hok.1
  have hnA : (l.length : Int) ≤ 9223372036854775807 := by omega
  obtain ⟨D, hD⟩ : ∃ D, fe U = D := ⟨_, rfl⟩
  rw [hD]
  have HD := Lib.hid hD
  clear hok hX hrk hD hU hsn hn hz hN
  go_enter Tryz.func51, Tryz.ntmps51
  go_wp2_with fail
  go_loopw [7] (fun i wr => ∃ k : Nat, k ≤ l.length ∧ i = .int .i64 k ∧ Hid (Below w.heap.size w wr) ∧ Hid (∀ i (hi : i < U.length), i < k → U[i] = 0)) (fun i _ => l.length - (intOf i).toNat)
  case atStart => exact ⟨0, Nat.zero_le _, rfl, Below.refl _ _, fun i _ h => by omega⟩
  case round =>
    obtain ⟨k, hk, rfl, HE, HZ⟩ := hrel
    have hzr := HE.out.size
    by_cases hlt : k < l.length
    · obtain ⟨b1, o, rfl, hbq, hcq, -⟩ := (HO.out.still (still_of HE.out (Nat.le_refl _)) (Nat.le_refl _)).at_ hlt
      have hUk : k < U.length := by omega
      have HAk : Hid (∀ W, Below w.heap.size w W → Calls Tryz.prog 52 #[(l[k]).v, .bool inn, .slice an names.length cn] W fun e w' => e = .returned (.int .i64 (U[k]'hUk)) ∧ Below W.heap.size W w') := HA.out k hlt
      have HDk : Hid (U[k]'hUk ≠ 0 → D = U[k]'hUk) := fun h => by rw [← HD.out]; exact fe_at hUk (fun i hi hik => HZ.out i hi hik) h
      have HZk : Hid (U[k]'hUk = 0 → ∀ i (hi : i < U.length), i < k + 1 → U[i] = 0) := fun h i hi hik => by
        by_cases e : i = k
        · subst e; exact h
        · exact HZ.out i hi (by omega)
      obtain ⟨y, hy⟩ : ∃ y, l[k] = y := ⟨_, rfl⟩
      obtain ⟨d, hd⟩ : ∃ d, U[k]'hUk = d := ⟨_, rfl⟩
      rw [hy] at hcq HAk
      rw [hd] at HAk HDk HZk
      obtain ⟨c0, c1, c2, c3, c4, c5, c6, c7⟩ := hcq
      have hbl := cell_lt c0
      clear hy hd
      by_cases h0 : d = 0
      · subst h0
        have HZS := Lib.hid (HZk.out rfl)
        clear HDk HZk
        go_wp2_with (go_at_call 52; (with_reducible refine (HAk.out _ ?_).mono ?_); (focus (have h0 := HE.out; (repeat' (first | (with_reducible exact Below.refl _ _) | (with_reducible assumption) | (with_reducible refine Below.alloc ?_ ?_ _) | (with_reducible refine below_drewN ?_ _) | (with_reducible refine Below.drew ?_) | (with_reducible refine Below.setCell ?_ ?_ _) | (with_reducible refine below_via (by assumption) ?_ ?_) | (with_reducible refine below_via (later_below _) ?_ ?_) | (with_reducible exact Nat.le_refl _) | omega | (simp; omega) | (simp; done))))); rintro e w2 ⟨rfl, hb2⟩)
        exact ⟨⟨k + 1, by omega, by go_num, (by show Below _ _ _; have h0 := HE.out; (repeat' (first | (with_reducible exact Below.refl _ _) | (with_reducible assumption) | (with_reducible refine Below.alloc ?_ ?_ _) | (with_reducible refine below_drewN ?_ _) | (with_reducible refine Below.drew ?_) | (with_reducible refine Below.setCell ?_ ?_ _) | (with_reducible refine below_via (by assumption) ?_ ?_) | (with_reducible refine below_via (later_below _) ?_ ?_) | (with_reducible exact Nat.le_refl _) | omega | (simp; omega) | (simp; done)))), HZS.out⟩, by simp [intOf]; omega⟩
      · have t0 : (d != 0) = true := by simpa using h0
        obtain rfl := HDk.out h0
        clear HDk HZk h0
        go_wp2_with (go_at_call 52; (with_reducible refine (HAk.out _ ?_).mono ?_); (focus (have h0 := HE.out; (repeat' (first | (with_reducible exact Below.refl _ _) | (with_reducible assumption) | (with_reducible refine Below.alloc ?_ ?_ _) | (with_reducible refine below_drewN ?_ _) | (with_reducible refine Below.drew ?_) | (with_reducible refine Below.setCell ?_ ?_ _) | (with_reducible refine below_via (by assumption) ?_ ?_) | (with_reducible refine below_via (later_below _) ?_ ?_) | (with_reducible exact Nat.le_refl _) | omega | (simp; omega) | (simp; done))))); rintro e w2 ⟨rfl, hb2⟩)
        go_returns
        exact ⟨rfl, by have h0 := HE.out; (repeat' (first | (with_reducible exact Below.refl _ _) | (with_reducible assumption) | (with_reducible refine Below.alloc ?_ ?_ _) | (with_reducible refine below_drewN ?_ _) | (with_reducible refine Below.drew ?_) | (with_reducible refine Below.setCell ?_ ?_ _) | (with_reducible refine below_via (by assumption) ?_ ?_) | (with_reducible refine below_via (later_below _) ?_ ?_) | (with_reducible exact Nat.le_refl _) | omega | (simp; omega) | (simp; done)))⟩
    · obtain rfl : k = l.length := by omega
      have hfe : D = 0 := by rw [← HD.out]; exact fe_all fun i hi => HZ.out i hi (by omega)
      subst hfe
      clear HA HD HZ
      go_wp2_with fail
      go_returns
      exact ⟨rfl, HE.out⟩

set_option maxHeartbeats 6400000 in
set_option maxRecDepth 100000 in
theorem rx_step (n : Nat) (hL : RL n) (hB : RB n) : RX (n + 1) := by
  intro x inn an cn names N w hrk hrm hin hsn hn hN hz
  have hrk0 := hrk
  rw [rkX_eq] at hrk
  have hrm0 := hrm
  rw [rkX_eq] at hrm
  have HIN := Lib.hid hin
  obtain ⟨V, hV⟩ : ∃ V, x.funcs.map (fun f => rkE n (.inr ⟨f.bA, f.bC, f.body⟩) false [⟨#[]⟩]) = V := ⟨_, rfl⟩
  have hVl : V.length = x.funcs.length := by rw [← hV, List.length_map]
  obtain ⟨EU, hEU⟩ : ∃ e, fe (x.args.map fun y => rkE n (.inl y) (x.k == 12) [⟨#[]⟩]) = e := ⟨_, rfl⟩
  have HLong : Hid (∀ W, Below w.heap.size w W → Calls Tryz.prog 75 #[x.v] W fun e w' => e = .returned (.bool (longB x)) ∧ Below W.heap.size W w') := fun W hW => rlong_any x W (hin.still (still_of hW (Nat.le_refl _)) hW.size)
  have HForm : Hid (∀ W, Below w.heap.size w W → Calls Tryz.prog 76 #[x.v, .bool inn, .slice an names.length cn] W fun e w' => e = .returned (.bool (foB x inn names)) ∧ Below W.heap.size W w') := fun W hW => rform_any x inn an cn names N W (hin.still (still_of hW (Nat.le_refl _)) hW.size) hsn (hn.still (p1_still (still_of hW hN)) (Nat.le_refl _)) (Nat.le_trans hN hW.size) hz
  have HNam : Hid (∀ W, Below w.heap.size w W → Calls Tryz.prog 77 #[x.v] W fun e w' => e = .returned (.bool (namedB x)) ∧ Below W.heap.size W w') := fun W hW => rnamed_any x W (hin.still (still_of hW (Nat.le_refl _)) hW.size)
  have HEx : Hid (∀ W B, Below w.heap.size w W → W.cell? ⟨B, 0, none⟩ = some (.string ⟨#[]⟩) → Calls Tryz.prog 51 #[.slice x.aA x.args.length x.aC, .bool (x.k == 12), .slice (some ⟨B, 0, none⟩) 1 1] W fun e w' => e = .returned (.int .i64 EU) ∧ Below W.heap.size W w') := fun W B hW hc => by
    rw [← hEU]
    exact hL x.args x.aA x.aC (x.k == 12) (some ⟨B, 0, none⟩) 1 [⟨#[]⟩] W.heap.size W (fun y hy => by have := rkXs_mem hy; omega) (hin.xs.still (still_of hW (Nat.le_refl _)) hW.size) ⟨Nat.le_refl _, (by decide : (1 : Nat) ≤ 9223372036854775807), fun h => by cases h⟩ (.inr ⟨B, 0, rfl, cell_lt hc, fun i hi => by
        obtain rfl : i = 0 := by simp at hi; omega
        exact hc⟩) (Nat.le_refl _) (fun s hs => by obtain rfl : s = ⟨#[]⟩ := by simpa using hs
                                                   exact Nat.zero_le _)
  have HF : Hid (∀ k (h : k < x.funcs.length) W, Below w.heap.size w W → Calls Tryz.prog 21 #[.slice (x.funcs[k]).bA (x.funcs[k]).body.length (x.funcs[k]).bC] W fun e w' => e = .returned (.int .i64 (V[k]'(by omega))) ∧ Below W.heap.size W w') := fun k h W hW => by
    have hf := ((inFs_iff _).1 hin.fs.2.2 _ (List.getElem_mem h)).still (still_of hW (Nat.le_refl _)) hW.size
    have e : V[k]'(by omega) = rkE n (.inr ⟨(x.funcs[k]).bA, (x.funcs[k]).bC, (x.funcs[k]).body⟩) false [⟨#[]⟩] := by
      subst hV
      rw [List.getElem_map]
    rw [e]
    have hfr := rkFs_mem (List.getElem_mem h)
    rw [rkF_eq] at hfr
    exact hB ⟨(x.funcs[k]).bA, (x.funcs[k]).bC, (x.funcs[k]).body⟩ W (by rw [rkB_eq]; dsimp only; omega) (by rw [rkB_eq]; dsimp only; omega) ((inB_iff _).2 ⟨⟨hf.ss.1, hf.ss.2.1⟩, hf.ss.2.2⟩)
  obtain ⟨i1, i2, -⟩ := hin.xs.1
  obtain ⟨i3, i4, -⟩ := hin.fs.1
  have hnA : (x.args.length : Int) ≤ 9223372036854775807 := by omega
  have hnF : (x.funcs.length : Int) ≤ 9223372036854775807 := by omega
  have HD : Hid (rkE (n + 1) (.inl x) inn names = if rxE x inn names = 0 then (if EU = 0 then fe V else EU) else rxE x inn names) := by
    show fe (rxE x inn names :: _) = _
    rw [hV]
    show (if rxE x inn names = 0 then fe (_ ++ V) else rxE x inn names) = _
    rw [fe_app, hEU]
  obtain ⟨D, hD⟩ : ∃ D, rkE (n + 1) (.inl x) inn names = D := ⟨_, rfl⟩
  rw [hD] at HD ⊢
  unfold rxE at HD
  obtain ⟨a1, ha1⟩ : ∃ b, longB x = b := ⟨_, rfl⟩
  obtain ⟨a2, ha2⟩ : ∃ b, foB x inn names = b := ⟨_, rfl⟩
  obtain ⟨a3, ha3⟩ : ∃ b, namedB x = b := ⟨_, rfl⟩
  rw [ha1] at HLong HD
  rw [ha2] at HForm HD
  rw [ha3] at HNam HD
  clear hin hL hB hrk hD hV hEU hrm hrk0 hrm0 ha1 ha2 ha3 hsn hn hz
  obtain ⟨uF, huF⟩ : ∃ v, x.fA = v := ⟨_, rfl⟩
  have HV0 := Lib.hid (X8n.new x w 28)
  simp only [TX.v, huF] at HLong HForm HNam
  cases a1 with
  | true =>
    obtain rfl : D = 3 := HD.out
    clear HD
    go_enter Tryz.func52, Tryz.ntmps52
    go_wp2_with (first | (go_at_call 75; (with_reducible refine (HLong.out _ ?_).mono ?_); (focus ((repeat' (first | (with_reducible exact Below.refl _ _) | (with_reducible assumption) | (with_reducible refine Below.alloc ?_ ?_ _) | (with_reducible refine below_drewN ?_ _) | (with_reducible refine Below.drew ?_) | (with_reducible refine Below.setCell ?_ ?_ _) | (with_reducible refine below_via (by assumption) ?_ ?_) | (with_reducible refine below_via (later_below _) ?_ ?_) | (with_reducible exact Nat.le_refl _) | omega | (simp; omega) | (simp; done))))); rintro e w1 ⟨rfl, hb⟩; (refine mem hb ?_; intro N hN hz hc hf; (try simp at hN); subst hN)))
    go_returns
    exact ⟨rfl, by (repeat' (first | (with_reducible exact Below.refl _ _) | (with_reducible assumption) | (with_reducible refine Below.alloc ?_ ?_ _) | (with_reducible refine below_drewN ?_ _) | (with_reducible refine Below.drew ?_) | (with_reducible refine Below.setCell ?_ ?_ _) | (with_reducible refine below_via (by assumption) ?_ ?_) | (with_reducible refine below_via (later_below _) ?_ ?_) | (with_reducible exact Nat.le_refl _) | omega | (simp; omega) | (simp; done)))⟩
  | false =>
    cases a2 with
    | false =>
      obtain rfl : D = 4 := HD.out
      clear HD
      go_enter Tryz.func52, Tryz.ntmps52
      go_wp2_with (first | (go_at_call 75; (with_reducible refine (HLong.out _ ?_).mono ?_); (focus ((repeat' (first | (with_reducible exact Below.refl _ _) | (with_reducible assumption) | (with_reducible refine Below.alloc ?_ ?_ _) | (with_reducible refine below_drewN ?_ _) | (with_reducible refine Below.drew ?_) | (with_reducible refine Below.setCell ?_ ?_ _) | (with_reducible refine below_via (by assumption) ?_ ?_) | (with_reducible refine below_via (later_below _) ?_ ?_) | (with_reducible exact Nat.le_refl _) | omega | (simp; omega) | (simp; done))))); rintro e w1 ⟨rfl, hb⟩; have hb1 := hb; (refine mem hb ?_; intro N hN hz hc hf; (try simp at hN); subst hN)) | (go_at_call 76; (with_reducible refine (HForm.out _ ?_).mono ?_); (focus ((repeat' (first | (with_reducible exact Below.refl _ _) | (with_reducible assumption) | (with_reducible refine Below.alloc ?_ ?_ _) | (with_reducible refine below_drewN ?_ _) | (with_reducible refine Below.drew ?_) | (with_reducible refine Below.setCell ?_ ?_ _) | (with_reducible refine below_via (by assumption) ?_ ?_) | (with_reducible refine below_via (later_below _) ?_ ?_) | (with_reducible exact Nat.le_refl _) | omega | (simp; omega) | (simp; done))))); rintro e w2 ⟨rfl, hb⟩; have hb2 := hb; (refine mem hb ?_; intro N hN hz hc hf; (try simp at hN); subst hN)))
      go_returns
      exact ⟨rfl, by (repeat' (first | (with_reducible exact Below.refl _ _) | (with_reducible assumption) | (with_reducible refine Below.alloc ?_ ?_ _) | (with_reducible refine below_drewN ?_ _) | (with_reducible refine Below.drew ?_) | (with_reducible refine Below.setCell ?_ ?_ _) | (with_reducible refine below_via (by assumption) ?_ ?_) | (with_reducible refine below_via (later_below _) ?_ ?_) | (with_reducible exact Nat.le_refl _) | omega | (simp; omega) | (simp; done)))⟩
    | true =>
      cases a3 with
      | false =>
        obtain rfl : D = 9 := HD.out
        clear HD
        go_enter Tryz.func52, Tryz.ntmps52
        go_wp2_with (first | (go_at_call 75; (with_reducible refine (HLong.out _ ?_).mono ?_); (focus ((repeat' (first | (with_reducible exact Below.refl _ _) | (with_reducible assumption) | (with_reducible refine Below.alloc ?_ ?_ _) | (with_reducible refine below_drewN ?_ _) | (with_reducible refine Below.drew ?_) | (with_reducible refine Below.setCell ?_ ?_ _) | (with_reducible refine below_via (by assumption) ?_ ?_) | (with_reducible refine below_via (later_below _) ?_ ?_) | (with_reducible exact Nat.le_refl _) | omega | (simp; omega) | (simp; done))))); rintro e w1 ⟨rfl, hb⟩; have hb1 := hb; (refine mem hb ?_; intro N hN hz hc hf; (try simp at hN); subst hN)) | (go_at_call 76; (with_reducible refine (HForm.out _ ?_).mono ?_); (focus ((repeat' (first | (with_reducible exact Below.refl _ _) | (with_reducible assumption) | (with_reducible refine Below.alloc ?_ ?_ _) | (with_reducible refine below_drewN ?_ _) | (with_reducible refine Below.drew ?_) | (with_reducible refine Below.setCell ?_ ?_ _) | (with_reducible refine below_via (by assumption) ?_ ?_) | (with_reducible refine below_via (later_below _) ?_ ?_) | (with_reducible exact Nat.le_refl _) | omega | (simp; omega) | (simp; done))))); rintro e w2 ⟨rfl, hb⟩; have hb2 := hb; (refine mem hb ?_; intro N hN hz hc hf; (try simp at hN); subst hN)) | (go_at_call 77; (with_reducible refine (HNam.out _ ?_).mono ?_); (focus ((repeat' (first | (with_reducible exact Below.refl _ _) | (with_reducible assumption) | (with_reducible refine Below.alloc ?_ ?_ _) | (with_reducible refine below_drewN ?_ _) | (with_reducible refine Below.drew ?_) | (with_reducible refine Below.setCell ?_ ?_ _) | (with_reducible refine below_via (by assumption) ?_ ?_) | (with_reducible refine below_via (later_below _) ?_ ?_) | (with_reducible exact Nat.le_refl _) | omega | (simp; omega) | (simp; done))))); rintro e w3 ⟨rfl, hb⟩; have hb3 := hb; (refine mem hb ?_; intro N hN hz hc hf; (try simp at hN); subst hN)))
        go_returns
        exact ⟨rfl, by (repeat' (first | (with_reducible exact Below.refl _ _) | (with_reducible assumption) | (with_reducible refine Below.alloc ?_ ?_ _) | (with_reducible refine below_drewN ?_ _) | (with_reducible refine Below.drew ?_) | (with_reducible refine Below.setCell ?_ ?_ _) | (with_reducible refine below_via (by assumption) ?_ ?_) | (with_reducible refine below_via (later_below _) ?_ ?_) | (with_reducible exact Nat.le_refl _) | omega | (simp; omega) | (simp; done)))⟩
      | true =>
        have HD1 : Hid (D = if EU = 0 then fe V else EU) := HD.out
        clear HD
        go_enter Tryz.func52, Tryz.ntmps52
        go_wp2_with (first | (go_at_call 75; (with_reducible refine (HLong.out _ ?_).mono ?_); (focus ((repeat' (first | (with_reducible exact Below.refl _ _) | (with_reducible assumption) | (with_reducible refine Below.alloc ?_ ?_ _) | (with_reducible refine below_drewN ?_ _) | (with_reducible refine Below.drew ?_) | (with_reducible refine Below.setCell ?_ ?_ _) | (with_reducible refine below_via (by assumption) ?_ ?_) | (with_reducible refine below_via (later_below _) ?_ ?_) | (with_reducible exact Nat.le_refl _) | omega | (simp; omega) | (simp; done))))); rintro e w1 ⟨rfl, hb⟩; have hb1 := hb; (refine mem hb ?_; intro N hN hz hc hf; (try simp at hN); subst hN)) | (go_at_call 76; (with_reducible refine (HForm.out _ ?_).mono ?_); (focus ((repeat' (first | (with_reducible exact Below.refl _ _) | (with_reducible assumption) | (with_reducible refine Below.alloc ?_ ?_ _) | (with_reducible refine below_drewN ?_ _) | (with_reducible refine Below.drew ?_) | (with_reducible refine Below.setCell ?_ ?_ _) | (with_reducible refine below_via (by assumption) ?_ ?_) | (with_reducible refine below_via (later_below _) ?_ ?_) | (with_reducible exact Nat.le_refl _) | omega | (simp; omega) | (simp; done))))); rintro e w2 ⟨rfl, hb⟩; have hb2 := hb; (refine mem hb ?_; intro N hN hz hc hf; (try simp at hN); subst hN)) | (go_at_call 77; (with_reducible refine (HNam.out _ ?_).mono ?_); (focus ((repeat' (first | (with_reducible exact Below.refl _ _) | (with_reducible assumption) | (with_reducible refine Below.alloc ?_ ?_ _) | (with_reducible refine below_drewN ?_ _) | (with_reducible refine Below.drew ?_) | (with_reducible refine Below.setCell ?_ ?_ _) | (with_reducible refine below_via (by assumption) ?_ ?_) | (with_reducible refine below_via (later_below _) ?_ ?_) | (with_reducible exact Nat.le_refl _) | omega | (simp; omega) | (simp; done))))); rintro e w3 ⟨rfl, hb⟩; have hb3 := hb; (refine mem hb ?_; intro N hN hz hc hf; (try simp at hN); subst hN)) | (go_at_call 51; (with_reducible refine (HEx.out _ _ ?_ ?_).mono ?_); (focus ((repeat' (first | (with_reducible exact Below.refl _ _) | (with_reducible assumption) | (with_reducible refine Below.alloc ?_ ?_ _) | (with_reducible refine below_drewN ?_ _) | (with_reducible refine Below.drew ?_) | (with_reducible refine Below.setCell ?_ ?_ _) | (with_reducible refine below_via (by assumption) ?_ ?_) | (with_reducible refine below_via (later_below _) ?_ ?_) | (with_reducible exact Nat.le_refl _) | omega | (simp; omega) | (simp; done))))); (focus (simp [cell_alloc_if])); rintro e w4 ⟨rfl, hb⟩; have hb4 := hb))
        go_loopw [7, 8] (fun fv iv wr => ∃ (k : Nat) (F : Int), k ≤ x.funcs.length ∧ fv = .int .i64 F ∧ iv = .int .i64 k ∧ Hid (Below w.heap.size w wr) ∧ Hid (X8n w.heap.size x wr) ∧ Hid ((F = 0 ∧ D = fe V ∧ ∀ i (hi : i < V.length), i < k → V[i] = 0) ∨ (F ≠ 0 ∧ D = F))) (fun _ i _ => x.funcs.length - (intOf i).toNat)
        case atStart =>
          have hB1 : Below w.heap.size w w1 := by (repeat' (first | (with_reducible exact Below.refl _ _) | (with_reducible assumption) | (with_reducible refine Below.alloc ?_ ?_ _) | (with_reducible refine below_drewN ?_ _) | (with_reducible refine Below.drew ?_) | (with_reducible refine Below.setCell ?_ ?_ _) | (with_reducible refine below_via (by assumption) ?_ ?_) | (with_reducible refine below_via (later_below _) ?_ ?_) | (with_reducible exact Nat.le_refl _) | omega | (simp; omega) | (simp; done)))
          have hB2 : Below w.heap.size w w2 := by (repeat' (first | (with_reducible exact Below.refl _ _) | (with_reducible assumption) | (with_reducible refine Below.alloc ?_ ?_ _) | (with_reducible refine below_drewN ?_ _) | (with_reducible refine Below.drew ?_) | (with_reducible refine Below.setCell ?_ ?_ _) | (with_reducible refine below_via (by assumption) ?_ ?_) | (with_reducible refine below_via (later_below _) ?_ ?_) | (with_reducible exact Nat.le_refl _) | omega | (simp; omega) | (simp; done)))
          have hB3 : Below w.heap.size w w3 := by (repeat' (first | (with_reducible exact Below.refl _ _) | (with_reducible assumption) | (with_reducible refine Below.alloc ?_ ?_ _) | (with_reducible refine below_drewN ?_ _) | (with_reducible refine Below.drew ?_) | (with_reducible refine Below.setCell ?_ ?_ _) | (with_reducible refine below_via (by assumption) ?_ ?_) | (with_reducible refine below_via (later_below _) ?_ ?_) | (with_reducible exact Nat.le_refl _) | omega | (simp; omega) | (simp; done)))
          have hB4 : Below w.heap.size w w4 := by (repeat' (first | (with_reducible exact Below.refl _ _) | (with_reducible assumption) | (with_reducible refine Below.alloc ?_ ?_ _) | (with_reducible refine below_drewN ?_ _) | (with_reducible refine Below.drew ?_) | (with_reducible refine Below.setCell ?_ ?_ _) | (with_reducible refine below_via (by assumption) ?_ ?_) | (with_reducible refine below_via (later_below _) ?_ ?_) | (with_reducible exact Nat.le_refl _) | omega | (simp; omega) | (simp; done)))
          refine ⟨0, EU, Nat.zero_le _, rfl, rfl, hB4, ?_, ?_⟩
          · show X8n _ _ _
            have k1 : Kept 0 0 (w.alloc (.cells #[.int .i64 x.k, .int .i64 x.op, .int .i64 x.ln, .int .i64 x.p, .int .i64 x.q, .string x.s, .slice x.aA x.args.length x.aC, .slice x.fA x.funcs.length x.fC] 28)) w1 := by
              rw [huF]; exact kept_of hb1 (Nat.zero_le _)
            have k2 : Kept 0 0 w1 w2 := kept_of hb2 (Nat.zero_le _)
            have k3 : Kept 0 0 w2 w3 := kept_of hb3 (Nat.zero_le _)
            have k4 : Kept 0 0 w3 w4 := kept_of (a := 0) (b := 0) (((Below.refl w3.heap.size w3).alloc (Nat.le_refl _) _).trans (hb4.mono (by simp))) (Nat.zero_le _)
            exact HV0.out.kept (((k1.trans k2).trans k3).trans k4) (Nat.zero_le _)
          · by_cases h0 : EU = 0
            · exact .inl ⟨h0, by rw [HD1.out, if_pos h0], fun i _ h => by omega⟩
            · exact .inr ⟨h0, by rw [HD1.out, if_neg h0]⟩
        case round =>
          obtain ⟨k, F, hk, rfl, rfl, HE, HV, HZ⟩ := hrel
          obtain ⟨e0, e1, e2, e3, e4, e5, e6, e7⟩ := HV.out
          have hzr := cell_lt e7
          rw [huF] at e7
          rcases HZ.out with ⟨rfl, hDV, hall⟩ | ⟨hF0, hDF⟩
          · have HDV := Lib.hid hDV
            have HAL := Lib.hid hall
            clear hDV hall HZ
            by_cases hlt : k < x.funcs.length
            · obtain ⟨b1, o, haF, hbq, hcq, -⟩ := (HIN.out.fs.still (still_of HE.out (Nat.le_refl _)) (Nat.le_refl _)).at_ hlt
              rw [huF] at haF
              subst haF
              have hVk : k < V.length := by omega
              have HFk : Hid (∀ W, Below w.heap.size w W → Calls Tryz.prog 21 #[.slice (x.funcs[k]).bA (x.funcs[k]).body.length (x.funcs[k]).bC] W fun e w' => e = .returned (.int .i64 (V[k]'hVk)) ∧ Below W.heap.size W w') := HF.out k hlt
              have HNX : Hid ((V[k]'hVk = 0 ∧ D = fe V ∧ ∀ i (hi : i < V.length), i < k + 1 → V[i] = 0) ∨ (V[k]'hVk ≠ 0 ∧ D = V[k]'hVk)) := by
                by_cases h0 : V[k]'hVk = 0
                · refine .inl ⟨h0, HDV.out, fun i hi hik => ?_⟩
                  by_cases e : i = k
                  · subst e; exact h0
                  · exact HAL.out i hi (by omega)
                · exact .inr ⟨h0, by rw [HDV.out]; exact fe_at hVk (fun i hi hik => HAL.out i hi hik) h0⟩
              obtain ⟨y, hy⟩ : ∃ y, x.funcs[k] = y := ⟨_, rfl⟩
              obtain ⟨d, hd⟩ : ∃ d, V[k]'hVk = d := ⟨_, rfl⟩
              rw [hy] at hcq HFk
              rw [hd] at HFk HNX
              obtain ⟨c0, c1, c2, c3, c4⟩ := hcq
              have hbl := cell_lt c0
              clear hy hd
              go_wp2_with (go_at_call 21; (with_reducible refine (HFk.out _ ?_).mono ?_); (focus (have h0 := HE.out; (repeat' (first | (with_reducible exact Below.refl _ _) | (with_reducible assumption) | (with_reducible refine Below.alloc ?_ ?_ _) | (with_reducible refine below_drewN ?_ _) | (with_reducible refine Below.drew ?_) | (with_reducible refine Below.setCell ?_ ?_ _) | (with_reducible refine below_via (by assumption) ?_ ?_) | (with_reducible refine below_via (later_below _) ?_ ?_) | (with_reducible exact Nat.le_refl _) | omega | (simp; omega) | (simp; done))))); rintro e w5 ⟨rfl, hb5⟩)
              refine ⟨⟨k + 1, d, by omega, rfl, by go_num, ?_, ?_, HNX.out⟩, by simp [intOf]; omega⟩
              · show Below _ _ _; have h0 := HE.out; (repeat' (first | (with_reducible exact Below.refl _ _) | (with_reducible assumption) | (with_reducible refine Below.alloc ?_ ?_ _) | (with_reducible refine below_drewN ?_ _) | (with_reducible refine Below.drew ?_) | (with_reducible refine Below.setCell ?_ ?_ _) | (with_reducible refine below_via (by assumption) ?_ ?_) | (with_reducible refine below_via (later_below _) ?_ ?_) | (with_reducible exact Nat.le_refl _) | omega | (simp; omega) | (simp; done)))
              · exact HV.out.kept (kept_of (a := 0) (b := 0) (by (repeat' (first | (with_reducible exact Below.refl _ _) | (with_reducible assumption) | (with_reducible refine Below.alloc ?_ ?_ _) | (with_reducible refine below_drewN ?_ _) | (with_reducible refine Below.drew ?_) | (with_reducible refine Below.setCell ?_ ?_ _) | (with_reducible refine below_via (by assumption) ?_ ?_) | (with_reducible refine below_via (later_below _) ?_ ?_) | (with_reducible exact Nat.le_refl _) | omega | (simp; omega) | (simp; done)))) (Nat.zero_le _)) (Nat.zero_le _)
            · obtain rfl : k = x.funcs.length := by omega
              have hfe : D = 0 := by rw [HDV.out]; exact fe_all fun i hi => HAL.out i hi (by omega)
              subst hfe
              clear HF HDV HAL
              go_wp2_with fail
              go_returns
              exact ⟨rfl, HE.out⟩
          · have t0 : (F == 0) = false := by simpa using hF0
            subst hDF
            clear HZ hF0 HF HD1
            by_cases hlt : k < x.funcs.length
            · go_wp2_with fail
              go_returns
              exact ⟨rfl, HE.out⟩
            · go_wp2_with fail
              go_returns
              exact ⟨rfl, HE.out⟩

set_option maxHeartbeats 3200000 in
set_option maxRecDepth 100000 in
theorem rb_aux (a : Option Addr) (c : Nat) (l : List TS) (U : List Int) (w : World) (hUl : U.length = l.length) (ho : SsOk w w.heap.size a c l)
    (HA : Hid (∀ k (h : k < l.length) W, Below w.heap.size w W → Calls Tryz.prog 37 #[(l[k]).v, .bool ((k : Int) == (l.length : Int) - 1)] W fun e w' => e = .returned (.int .i64 (U[k]'(by omega))) ∧ Below W.heap.size W w')) :
    Calls Tryz.prog 21 #[.slice a l.length c] w fun e w' => e = .returned (.int .i64 (fe U)) ∧ Below w.heap.size w w' := by
  have HO := Lib.hid ho
  obtain ⟨i1, i2, -⟩ := ho.1
  have hnA : (l.length : Int) ≤ 9223372036854775807 := by omega
  obtain ⟨D, hD⟩ : ∃ D, fe U = D := ⟨_, rfl⟩
  rw [hD]
  have HD := Lib.hid hD
  clear ho hD
  go_enter Tryz.func21, Tryz.ntmps21
  go_wp2_with fail
  go_loopw [3] (fun i wr => ∃ k : Nat, k ≤ l.length ∧ i = .int .i64 k ∧ Hid (Below w.heap.size w wr) ∧ Hid (∀ i (hi : i < U.length), i < k → U[i] = 0)) (fun i _ => l.length - (intOf i).toNat)
  case atStart => exact ⟨0, Nat.zero_le _, rfl, Below.refl _ _, fun i _ h => by omega⟩
  case round =>
    obtain ⟨k, hk, rfl, HE, HZ⟩ := hrel
    have hzr := HE.out.size
    by_cases hlt : k < l.length
    · obtain ⟨b1, o, rfl, hbq, hcq, -⟩ := (HO.out.still (still_of HE.out (Nat.le_refl _)) (Nat.le_refl _)).at_ hlt
      have hUk : k < U.length := by omega
      have HAk : Hid (∀ W, Below w.heap.size w W → Calls Tryz.prog 37 #[(l[k]).v, .bool ((k : Int) == (l.length : Int) - 1)] W fun e w' => e = .returned (.int .i64 (U[k]'hUk)) ∧ Below W.heap.size W w') := HA.out k hlt
      have HDk : Hid (U[k]'hUk ≠ 0 → D = U[k]'hUk) := fun h => by rw [← HD.out]; exact fe_at hUk (fun i hi hik => HZ.out i hi hik) h
      have HZk : Hid (U[k]'hUk = 0 → ∀ i (hi : i < U.length), i < k + 1 → U[i] = 0) := fun h i hi hik => by
        by_cases e : i = k
        · subst e; exact h
        · exact HZ.out i hi (by omega)
      obtain ⟨y, hy⟩ : ∃ y, l[k] = y := ⟨_, rfl⟩
      obtain ⟨d, hd⟩ : ∃ d, U[k]'hUk = d := ⟨_, rfl⟩
      rw [hy] at hcq HAk
      rw [hd] at HAk HDk HZk
      obtain ⟨c0, c1, c2, c3, c4, c5, c6⟩ := hcq
      have hbl := cell_lt c0
      clear hy hd
      by_cases h0 : d = 0
      · subst h0
        have HZS := Lib.hid (HZk.out rfl)
        clear HDk HZk
        go_wp2_with (go_at_call 37; (with_reducible refine (HAk.out _ ?_).mono ?_); (focus (have h0 := HE.out; (repeat' (first | (with_reducible exact Below.refl _ _) | (with_reducible assumption) | (with_reducible refine Below.alloc ?_ ?_ _) | (with_reducible refine below_drewN ?_ _) | (with_reducible refine Below.drew ?_) | (with_reducible refine Below.setCell ?_ ?_ _) | (with_reducible refine below_via (by assumption) ?_ ?_) | (with_reducible refine below_via (later_below _) ?_ ?_) | (with_reducible exact Nat.le_refl _) | omega | (simp; omega) | (simp; done))))); rintro e w2 ⟨rfl, hb2⟩)
        exact ⟨⟨k + 1, by omega, by go_num, (by show Below _ _ _; have h0 := HE.out; (repeat' (first | (with_reducible exact Below.refl _ _) | (with_reducible assumption) | (with_reducible refine Below.alloc ?_ ?_ _) | (with_reducible refine below_drewN ?_ _) | (with_reducible refine Below.drew ?_) | (with_reducible refine Below.setCell ?_ ?_ _) | (with_reducible refine below_via (by assumption) ?_ ?_) | (with_reducible refine below_via (later_below _) ?_ ?_) | (with_reducible exact Nat.le_refl _) | omega | (simp; omega) | (simp; done)))), HZS.out⟩, by simp [intOf]; omega⟩
      · have t0 : (d != 0) = true := by simpa using h0
        obtain rfl := HDk.out h0
        clear HDk HZk h0
        go_wp2_with (go_at_call 37; (with_reducible refine (HAk.out _ ?_).mono ?_); (focus (have h0 := HE.out; (repeat' (first | (with_reducible exact Below.refl _ _) | (with_reducible assumption) | (with_reducible refine Below.alloc ?_ ?_ _) | (with_reducible refine below_drewN ?_ _) | (with_reducible refine Below.drew ?_) | (with_reducible refine Below.setCell ?_ ?_ _) | (with_reducible refine below_via (by assumption) ?_ ?_) | (with_reducible refine below_via (later_below _) ?_ ?_) | (with_reducible exact Nat.le_refl _) | omega | (simp; omega) | (simp; done))))); rintro e w2 ⟨rfl, hb2⟩)
        go_returns
        exact ⟨rfl, by have h0 := HE.out; (repeat' (first | (with_reducible exact Below.refl _ _) | (with_reducible assumption) | (with_reducible refine Below.alloc ?_ ?_ _) | (with_reducible refine below_drewN ?_ _) | (with_reducible refine Below.drew ?_) | (with_reducible refine Below.setCell ?_ ?_ _) | (with_reducible refine below_via (by assumption) ?_ ?_) | (with_reducible refine below_via (later_below _) ?_ ?_) | (with_reducible exact Nat.le_refl _) | omega | (simp; omega) | (simp; done)))⟩
    · obtain rfl : k = l.length := by omega
      have hfe : D = 0 := by rw [← HD.out]; exact fe_all fun i hi => HZ.out i hi (by omega)
      subst hfe
      clear HA HD HZ
      go_wp2_with fail
      go_returns
      exact ⟨rfl, HE.out⟩

theorem rb_step (n : Nat) (hS : RS n) : RB (n + 1) := by
  intro y w hrk hrm hin
  rw [rkB_eq] at hrk hrm
  have HO := hin.ss
  have hD : rkE (n + 1) (.inr y) false [⟨#[]⟩] = fe (y.l.mapIdx fun i s => stE n s ((i : Int) == (y.l.length : Int) - 1)) := rfl
  rw [hD]
  refine rb_aux y.a y.c y.l _ w (by rw [List.length_mapIdx]) HO (fun k h W hW => ?_)
  rw [List.getElem_mapIdx]
  have hr := rkSs_mem (List.getElem_mem h)
  exact hS _ _ W (by omega) (by omega) (((inSs_iff _).1 HO.2.2 _ (List.getElem_mem h)).still (still_of hW (Nat.le_refl _)) hW.size)
end Go.Proofs.YthkpggpnbdedjaaGreat
