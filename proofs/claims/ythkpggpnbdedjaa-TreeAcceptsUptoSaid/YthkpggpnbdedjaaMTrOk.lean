/- Titles are answered in every tree; the parts of a tree that is accepted are accepted. -/
import Derived.Test.YthkpggpnbdedjaaMTrTl
import Derived.Test.YthkpggpnbdedjaaMTrFn
namespace Go.Proofs.Ythkpggpnbdedjaa
open Go.RowKit Go.Instr
set_option linter.unusedVariables false

theorem titles_any (s : TS) (hrk : rkS s ≤ 1048576) : TIc s := by
  by_cases h2 : s.k = 2
  · by_cases hl : s.names.length = 1
    · exact titles_f1 s h2 hl
    · exact titles_f2 s h2 hl
  · by_cases h3 : s.k = 3
    · by_cases hl : s.left.length = 1
      · by_cases hr : s.right.length = 1
        · exact titles_a1 s h3 hl hr hrk
        · exact titles_a0 s h3 (.inr hr)
      · exact titles_a0 s h3 (.inl hl)
    · exact titles_none s h2 h3
theorem part_rk {s : TS} {p : TX ⊕ TB} (hp : p ∈ partsS s) : rkPt p < rkS s := by
  rw [rkS_eq]
  rcases parts_mem hp with ⟨u, hu, rfl⟩ | ⟨u, hu, rfl⟩
  · rcases hu with hu | hu
    · have : rkPt (.inl u) ≤ rkXs s.left := rkXs_mem hu
      omega
    · have : rkPt (.inl u) ≤ rkXs s.right := rkXs_mem hu
      omega
  · have : rkPt (.inr u) ≤ rkBs s.blocks := rkBs_mem hu
    omega
theorem arg_rk {x y : TX} (h : y ∈ x.args) : rkPt (.inl y) < rkPt (.inl x) := by
  have h1 := rkXs_mem h
  have h2 := rkX_eq x
  show rkX y < rkX x
  omega
/-- A function's body as a block. -/
abbrev bodyB (f : TF) : TB := ⟨f.bA, f.bC, f.body⟩
theorem fun_rk {x : TX} {f : TF} (h : f ∈ x.funcs) : rkPt (.inr (bodyB f)) < rkPt (.inl x) := by
  have h1 := rkFs_mem h
  rw [rkF_eq] at h1
  have h2 := rkX_eq x
  have e : rkPt (.inr (bodyB f)) = 1 + rkSs f.body := rkB_eq _
  show _ < rkX x
  omega
theorem stat_rk {y : TB} {s : TS} (h : s ∈ y.l) : rkS s < rkPt (.inr y) := by
  have h1 := rkSs_mem h
  have h2 := rkB_eq y
  show _ < rkB y
  omega
theorem okN_all : ∀ n p, rkPt p ≤ 1048576 → okN n p
  | 0, _, _ => trivial
  | n + 1, .inl x, h => ⟨fun y hy => okN_all n (.inl y) (by have := arg_rk hy; omega), fun f hf => okN_all n (.inr (bodyB f)) (by have := fun_rk hf; omega)⟩
  | n + 1, .inr y, h => fun s hs => ⟨titles_any s (by have := stat_rk hs; omega), fun p hp => okN_all n p (by have := stat_rk hs; have := part_rk hp; omega)⟩

theorem fe_zero : ∀ {l : List Int}, fe l = 0 → ∀ e ∈ l, e = 0
  | a :: l, h, e, he => by
    unfold fe at h
    split at h
    · rename_i ha
      rcases List.mem_cons.1 he with rfl | he
      · exact ha
      · exact fe_zero h e he
    · exact absurd h ‹_›
theorem fe_nil : ∀ {l : List Int}, (∀ e ∈ l, e = 0) → fe l = 0
  | [], _ => rfl
  | a :: l, h => by
    unfold fe
    rw [if_pos (h a List.mem_cons_self)]
    exact fe_nil fun e he => h e (List.mem_cons_of_mem _ he)
theorem ckE_fuel : ∀ n m p par t, rkPt p < n → rkPt p < m → ckE n p par t = ckE m p par t
  | 0, _, _, _, _, h, _ => by omega
  | _ + 1, 0, _, _, _, _, h => by omega
  | n + 1, m + 1, .inl x, par, t, h1, h2 => by
    show fe _ = fe _
    congr 2
    congr 1
    · exact List.map_congr_left fun y hy => ckE_fuel n m _ _ _ (by have := arg_rk hy; omega) (by have := arg_rk hy; omega)
    · exact List.map_congr_left fun f hf => ckE_fuel n m _ _ _ (by have := fun_rk hf; show rkPt (.inr (bodyB f)) < n; omega) (by have := fun_rk hf; show rkPt (.inr (bodyB f)) < m; omega)
  | n + 1, m + 1, .inr y, par, t, h1, h2 => by
    show fe _ = fe _
    congr 1
    apply List.ext_getElem
    · simp
    · intro i hi1 hi2
      have hl : i < y.l.length := by simpa using hi1
      rw [List.getElem_mapIdx, List.getElem_mapIdx]
      congr 2
      have hs := stat_rk (List.getElem_mem hl)
      exact List.map_congr_left fun p hp => ckE_fuel n m _ _ _ (by have := part_rk hp; omega) (by have := part_rk hp; omega)
/-- An expression was accepted somewhere. -/
def GoodX (x : TX) : Prop := ∃ par t, ckE (rkX x + 1) (.inl x) par t = 0
theorem good_all : ∀ n p, rkPt p < n → (∃ par t, ckE n p par t = 0) → ∀ x ∈ exP n p, GoodX x
  | 0, _, h, _, _, _ => by omega
  | n + 1, .inl z, h, ⟨par, t, hz⟩, x, hx => by
    have hall := fe_zero (show fe _ = 0 from hz)
    rw [exP_x] at hx
    rcases List.mem_cons.1 hx with rfl | hx
    · exact ⟨par, t, by rw [← hz]; exact ckE_fuel _ _ (.inl x) par t (Nat.lt_succ_self _) h⟩
    · rcases List.mem_append.1 hx with hx | hx
      · obtain ⟨u, hu, hx⟩ := List.mem_flatMap.1 hx
        exact good_all n (.inl u) (by have := arg_rk hu; omega) ⟨_, _, hall _ (List.mem_cons_of_mem _ (List.mem_append_left _ (List.mem_map_of_mem hu)))⟩ x hx
      · obtain ⟨u, hu, hx⟩ := List.mem_flatMap.1 hx
        exact good_all n (.inr (bodyB u)) (by have := fun_rk hu; omega) ⟨_, _, hall _ (List.mem_cons_of_mem _ (List.mem_append_right _ (List.mem_map_of_mem (f := fun f : TF => ckE n (.inr ⟨f.bA, f.bC, f.body⟩) 0 T0) hu)))⟩ x hx
  | n + 1, .inr y, h, ⟨par, t, hz⟩, x, hx => by
    have hall := fe_zero (show fe _ = 0 from hz)
    rw [exP_b] at hx
    obtain ⟨s, hs, hx⟩ := List.mem_flatMap.1 hx
    obtain ⟨p, hp, hx⟩ := List.mem_flatMap.1 hx
    obtain ⟨i, hi, he⟩ := List.getElem_of_mem hs
    have hst := stat_rk hs
    have hpr := part_rk hp
    have h1 := hall _ (List.mem_mapIdx.2 ⟨i, hi, rfl⟩)
    have h2 := fe_zero h1
    rw [he] at h2
    exact good_all n p (by omega) ⟨_, _, h2 _ (List.mem_cons_of_mem _ (List.mem_map_of_mem hp))⟩ x hx
theorem good_exs {y : TB} (h : cbE y = 0) : ∀ x ∈ exsB y, GoodX x := good_all _ (.inr y) (Nat.lt_succ_self _) ⟨_, _, h⟩
theorem good_fun {x : TX} (h : GoodX x) : ∀ f ∈ x.funcs, cbE (bodyB f) = 0 := by
  obtain ⟨par, t, h⟩ := h
  intro f hf
  have h1 := fe_zero (show fe _ = 0 from h) _ (List.mem_cons_of_mem _ (List.mem_append_right _ (List.mem_map_of_mem (f := fun f : TF => ckE (rkX x) (.inr ⟨f.bA, f.bC, f.body⟩) 0 T0) hf)))
  exact (ckE_fuel _ _ (.inr (bodyB f)) 0 T0 (Nat.lt_succ_self _) (fun_rk hf)).trans h1
end Go.Proofs.Ythkpggpnbdedjaa

/- The parts of a tree that is accepted are accepted: sizes, depths, errors. -/
namespace Go.Proofs.Ythkpggpnbdedjaa
open Go.RowKit Go.Instr
set_option linter.unusedVariables false

def szPt : TX ⊕ TB → Nat
  | .inl x => szX x
  | .inr y => szB y
theorem szX_in {l : List TX} {x : TX} (h : x ∈ l) : szX x ≤ szXs l := by
  induction l with
  | nil => cases h
  | cons a l ih =>
    show _ ≤ szX a + szXs l
    rcases List.mem_cons.1 h with rfl | h
    · omega
    · have := ih h; omega
theorem szF_in {l : List TF} {x : TF} (h : x ∈ l) : szF x ≤ szFs l := by
  induction l with
  | nil => cases h
  | cons a l ih =>
    show _ ≤ szF a + szFs l
    rcases List.mem_cons.1 h with rfl | h
    · omega
    · have := ih h; omega
theorem szS_in {l : List TS} {x : TS} (h : x ∈ l) : szS x ≤ szSs l := by
  induction l with
  | nil => cases h
  | cons a l ih =>
    show _ ≤ szS a + szSs l
    rcases List.mem_cons.1 h with rfl | h
    · omega
    · have := ih h; omega
theorem szB_in {l : List TB} {x : TB} (h : x ∈ l) : szB x ≤ szBs l := by
  induction l with
  | nil => cases h
  | cons a l ih =>
    show _ ≤ szB a + szBs l
    rcases List.mem_cons.1 h with rfl | h
    · omega
    · have := ih h; omega
theorem szP_in {s : TS} {p : TX ⊕ TB} (h : p ∈ partsS s) : szPt p + 1 ≤ szS s := by
  rw [szS_eq]
  rcases parts_mem h with ⟨u, hu, rfl⟩ | ⟨u, hu, rfl⟩
  · rcases hu with hu | hu
    · have : szPt (.inl u) ≤ szXs s.left := szX_in hu
      omega
    · have : szPt (.inl u) ≤ szXs s.right := szX_in hu
      omega
  · have : szPt (.inr u) ≤ szBs s.blocks := szB_in hu
    omega
/-- An expression of a part is no larger. -/
theorem sz_ex : ∀ n p, ∀ x ∈ exP n p, szX x + (match p with | .inl _ => 0 | .inr _ => 1) ≤ szPt p
  | 0, _, _, h => by cases h
  | n + 1, .inl z, x, h => by
    show szX x + 0 ≤ szX z
    rw [exP_x] at h
    rcases List.mem_cons.1 h with rfl | h
    · omega
    · rw [szX_eq z]
      rcases List.mem_append.1 h with h | h
      · obtain ⟨u, hu, h⟩ := List.mem_flatMap.1 h
        have h1 : szX x + 0 ≤ szX u := sz_ex n (.inl u) x h
        have h2 := szX_in hu
        omega
      · obtain ⟨u, hu, h⟩ := List.mem_flatMap.1 h
        have h1 : szX x + 1 ≤ szB (bodyB u) := sz_ex n (.inr (bodyB u)) x h
        have h2 := szF_in hu
        rw [szF_eq] at h2
        have h3 : szB (bodyB u) = szSs u.body := szB_eq _
        omega
  | n + 1, .inr y, x, h => by
    show szX x + 1 ≤ szB y
    rw [exP_b] at h
    obtain ⟨s, hs, h⟩ := List.mem_flatMap.1 h
    obtain ⟨p, hp, h⟩ := List.mem_flatMap.1 h
    have h1 := sz_ex n p x h
    have h2 := szP_in hp
    have h3 := szS_in hs
    rw [szB_eq]
    cases p with
    | inl u =>
      have h4 : szX x + 0 ≤ szPt (.inl u) := h1
      omega
    | inr u =>
      have h4 : szX x + 1 ≤ szPt (.inr u) := h1
      omega
theorem sz_exs {y : TB} : ∀ x ∈ exsB y, szX x + 1 ≤ szSs y.l := fun x hx => by
  have h : szX x + 1 ≤ szB y := sz_ex _ (.inr y) x hx
  rw [szB_eq] at h
  exact h
theorem sz_rk : ∀ n p, rkPt p < n → szPt p ≤ rkPt p
  | 0, _, h => by omega
  | n + 1, .inl z, h => by
    show szX z ≤ rkX z
    rw [szX_eq, rkX_eq, ← szXs_sum, ← szFs_sum, ← rkXs_sum, ← rkFs_sum]
    have h1 : (z.args.map szX).sum ≤ (z.args.map rkX).sum := sum_le _ _ _ fun u hu => sz_rk n (.inl u) (by have := arg_rk hu; omega)
    have h2 : (z.funcs.map szF).sum ≤ (z.funcs.map rkF).sum := sum_le _ _ _ fun u hu => by
      have h3 : szB (bodyB u) ≤ rkB (bodyB u) := sz_rk n (.inr (bodyB u)) (by have := fun_rk hu; omega)
      rw [szB_eq, rkB_eq] at h3
      rw [szF_eq, rkF_eq]
      have h4 : szSs u.body ≤ 1 + rkSs u.body := h3
      omega
    omega
  | n + 1, .inr y, h => by
    show szB y ≤ rkB y
    rw [szB_eq, rkB_eq, ← szSs_sum, ← rkSs_sum]
    have h1 : (y.l.map szS).sum ≤ (y.l.map rkS).sum := sum_le _ _ _ fun s hs => by
      rw [szS_eq, rkS_eq, ← szXs_sum, ← szXs_sum, ← szBs_sum, ← rkXs_sum, ← rkXs_sum, ← rkBs_sum]
      have hst := stat_rk hs
      rw [rkS_eq] at hst
      have a1 : (s.left.map szX).sum ≤ (s.left.map rkX).sum := sum_le _ _ _ fun u hu => sz_rk n (.inl u) (by have : rkPt (.inl u) ≤ rkXs s.left := rkXs_mem hu; omega)
      have a2 : (s.right.map szX).sum ≤ (s.right.map rkX).sum := sum_le _ _ _ fun u hu => sz_rk n (.inl u) (by have : rkPt (.inl u) ≤ rkXs s.right := rkXs_mem hu; omega)
      have a3 : (s.blocks.map szB).sum ≤ (s.blocks.map rkB).sum := sum_le _ _ _ fun u hu => sz_rk n (.inr u) (by have : rkPt (.inr u) ≤ rkBs s.blocks := rkBs_mem hu; omega)
      omega
    omega
where
  sum_le {α : Type} (f g : α → Nat) : ∀ l : List α, (∀ x ∈ l, f x ≤ g x) → (l.map f).sum ≤ (l.map g).sum
    | [], _ => Nat.le_refl _
    | x :: l, h => by
      have h1 := h x List.mem_cons_self
      have h2 := sum_le f g l (fun y hy => h y (List.mem_cons_of_mem _ hy))
      rw [List.map_cons, List.map_cons, List.sum_cons, List.sum_cons]
      omega

theorem mx_le {α : Type} (f : α → Int) (B : Int) (hB : 0 ≤ B) : ∀ l : List α, (∀ x ∈ l, f x ≤ B) → mx f l ≤ B
  | [], _ => hB
  | x :: l, h => by
    show max (f x) (mx f l) ≤ B
    have h1 := h x List.mem_cons_self
    have h2 := mx_le f B hB l (fun y hy => h y (List.mem_cons_of_mem _ hy))
    omega
theorem mx_in {α : Type} (f : α → Int) : ∀ {l : List α} {x : α}, x ∈ l → f x ≤ mx f l
  | a :: l, x, h => by
    show f x ≤ max (f a) (mx f l)
    rcases List.mem_cons.1 h with rfl | h
    · omega
    · have := mx_in f h; omega
theorem wrap_id {n : Int} (h1 : 0 ≤ n) (h2 : n ≤ 9000000000000000000) : wrap64 n = n := by unfold wrap64; omega
/-- Depths do not wrap. -/
theorem dp_rk : ∀ n p, rkPt p < n → rkPt p ≤ 1048577 → 0 ≤ dpP p ∧ dpP p ≤ rkPt p
  | 0, _, h, _ => by omega
  | n + 1, .inl z, h, hb => by
    show 0 ≤ dpX z ∧ dpX z ≤ (rkX z : Nat)
    have hz : (rkX z : Nat) ≤ 1048577 := hb
    rw [dpX_eq, mxXs_mx, mxFs_mx]
    have h0 := mx_pos dpX z.args
    have h00 := mx_pos dpF z.funcs
    have h1 : mx dpX z.args ≤ (rkX z : Int) - 1 := mx_le _ _ (by have := rkX_eq z; omega) _ fun u hu => by
      have a := arg_rk hu
      have a' : rkX u < rkX z := a
      have b := (dp_rk n (.inl u) (by omega) (by omega)).2
      have b' : dpX u ≤ (rkX u : Nat) := b
      omega
    have h2 : mx dpF z.funcs ≤ (rkX z : Int) - 1 := mx_le _ _ (by have := rkX_eq z; omega) _ fun u hu => by
      have a := fun_rk hu
      have a' : rkB (bodyB u) < rkX z := a
      have b := (dp_rk n (.inr (bodyB u)) (by omega) (by omega)).2
      have b' : dpB (bodyB u) ≤ (rkB (bodyB u) : Nat) := b
      rw [dpB_eq] at b'
      rw [dpF_eq]
      have b2 : wrap64 (1 + mxSs u.body) ≤ (rkB (bodyB u) : Nat) := b'
      omega
    rw [wrap_id (by omega) (by omega)]
    omega
  | n + 1, .inr y, h, hb => by
    show 0 ≤ dpB y ∧ dpB y ≤ (rkB y : Nat)
    have hz : (rkB y : Nat) ≤ 1048577 := hb
    rw [dpB_eq, mxSs_mx]
    have h0 := mx_pos dpS y.l
    have h1 : mx dpS y.l ≤ (rkB y : Int) - 1 := mx_le _ _ (by have := rkB_eq y; omega) _ fun s hs => by
      have a := stat_rk hs
      have a' : rkS s < rkB y := a
      rw [← partsS_mx]
      refine mx_le _ _ (by omega) _ fun p hp => ?_
      have c := part_rk hp
      have b := (dp_rk n p (by omega) (by omega)).2
      omega
    rw [wrap_id (by omega) (by omega)]
    omega
theorem dpX_un {z : TX} (h : rkX z ≤ 1048577) : dpX z = 1 + max (mx dpX z.args) (mx dpF z.funcs) := by
  have h1 := dp_rk _ (.inl z) (Nat.lt_succ_self _) h
  have h2 : 0 ≤ dpX z ∧ dpX z ≤ (rkX z : Nat) := h1
  have e := dpX_eq z
  rw [mxXs_mx, mxFs_mx] at e
  have h0 := mx_pos dpX z.args
  have h00 := mx_pos dpF z.funcs
  have h3 : mx dpX z.args ≤ 1048577 := mx_le _ _ (by omega) _ fun u hu => by
    have a : rkX u < rkX z := arg_rk hu
    have b : 0 ≤ dpX u ∧ dpX u ≤ (rkX u : Nat) := dp_rk _ (.inl u) (Nat.lt_succ_self _) (show rkX u ≤ 1048577 by omega)
    omega
  have h4 : mx dpF z.funcs ≤ 1048577 := mx_le _ _ (by omega) _ fun u hu => by
    have a : rkB (bodyB u) < rkX z := fun_rk hu
    have b : 0 ≤ dpB (bodyB u) ∧ dpB (bodyB u) ≤ (rkB (bodyB u) : Nat) := dp_rk _ (.inr (bodyB u)) (Nat.lt_succ_self _) (show rkB (bodyB u) ≤ 1048577 by omega)
    rw [dpB_eq] at b
    rw [dpF_eq]
    have b2 : wrap64 (1 + mxSs u.body) ≤ (rkB (bodyB u) : Nat) := b.2
    omega
  rw [e, wrap_id (by omega) (by omega)]
theorem dpB_un {y : TB} (h : rkB y ≤ 1048577) : dpB y = 1 + mx dpS y.l := by
  have e := dpB_eq y
  rw [mxSs_mx] at e
  have h0 := mx_pos dpS y.l
  have h3 : mx dpS y.l ≤ 1048577 := mx_le _ _ (by omega) _ fun s hs => by
    have a : rkS s < rkB y := stat_rk hs
    rw [← partsS_mx]
    refine mx_le _ _ (by omega) _ fun p hp => ?_
    have c := part_rk hp
    have b := (dp_rk _ p (Nat.lt_succ_self _) (by omega)).2
    omega
  rw [e, wrap_id (by omega) (by omega)]
/-- An expression of a part lies no deeper. -/
theorem dp_ex : ∀ n p, rkPt p ≤ 1048577 → ∀ x ∈ exP n p, dpX x + (match p with | .inl _ => 0 | .inr _ => 1) ≤ dpP p
  | 0, _, _, _, h => by cases h
  | n + 1, .inl z, hr, x, h => by
    show dpX x + 0 ≤ dpX z
    rw [exP_x] at h
    rcases List.mem_cons.1 h with rfl | h
    · omega
    · rw [dpX_un hr]
      rcases List.mem_append.1 h with h | h
      · obtain ⟨u, hu, h⟩ := List.mem_flatMap.1 h
        have a := arg_rk hu
        have h1 : dpX x + 0 ≤ dpX u := dp_ex n (.inl u) (by omega) x h
        have h2 := mx_in dpX hu
        omega
      · obtain ⟨u, hu, h⟩ := List.mem_flatMap.1 h
        have a := fun_rk hu
        have h1 : dpX x + 1 ≤ dpB (bodyB u) := dp_ex n (.inr (bodyB u)) (by omega) x h
        have h2 := mx_in dpF hu
        rw [dpF_eq] at h2
        rw [dpB_eq] at h1
        have h3 : dpX x + 1 ≤ wrap64 (1 + mxSs u.body) := h1
        omega
  | n + 1, .inr y, hr, x, h => by
    show dpX x + 1 ≤ dpB y
    rw [dpB_un hr]
    rw [exP_b] at h
    obtain ⟨s, hs, h⟩ := List.mem_flatMap.1 h
    obtain ⟨p, hp, h⟩ := List.mem_flatMap.1 h
    have a := stat_rk hs
    have c := part_rk hp
    have h1 := dp_ex n p (by omega) x h
    have h2 := mx_in dpS hs
    rw [← partsS_mx] at h2
    have h3 := mx_in dpP hp
    cases p with
    | inl u =>
      have h4 : dpX x + 0 ≤ dpP (.inl u) := h1
      omega
    | inr u =>
      have h4 : dpX x + 1 ≤ dpP (.inr u) := h1
      omega
theorem dp_exs {y : TB} (hr : rkB y ≤ 1048576) : ∀ x ∈ exsB y, dpX x + 1 ≤ dpB y := fun x hx => dp_ex _ (.inr y) (show rkB y ≤ 1048577 by omega) x hx
theorem rk_ex : ∀ n p, ∀ x ∈ exP n p, rkX x ≤ rkPt p
  | 0, _, _, h => by cases h
  | n + 1, .inl z, x, h => by
    rw [exP_x] at h
    rcases List.mem_cons.1 h with rfl | h
    · exact Nat.le_refl _
    · rcases List.mem_append.1 h with h | h
      · obtain ⟨u, hu, h⟩ := List.mem_flatMap.1 h
        have h1 := rk_ex n (.inl u) x h
        have := arg_rk hu
        omega
      · obtain ⟨u, hu, h⟩ := List.mem_flatMap.1 h
        have h1 := rk_ex n (.inr (bodyB u)) x h
        have := fun_rk hu
        omega
  | n + 1, .inr y, x, h => by
    rw [exP_b] at h
    obtain ⟨s, hs, h⟩ := List.mem_flatMap.1 h
    obtain ⟨p, hp, h⟩ := List.mem_flatMap.1 h
    have h1 := rk_ex n p x h
    have h2 := stat_rk hs
    have h3 := part_rk hp
    omega
theorem rk_exs {y : TB} : ∀ x ∈ exsB y, rkX x + 2 ≤ rkB y := fun x hx => by
  have hx : x ∈ exP (rkB y + 1) (.inr y) := hx
  rw [exP_b] at hx
  obtain ⟨s, hs, hx⟩ := List.mem_flatMap.1 hx
  obtain ⟨p, hp, hx⟩ := List.mem_flatMap.1 hx
  have h1 := rk_ex _ p x hx
  have h2 : rkS s < rkB y := stat_rk hs
  have h3 := part_rk hp
  omega
theorem ch_zero {y : TB} {E : Int} (h : chE y E = 0) : ¬ 65536 < wrap64 (szSs y.l) ∧ ¬ 64 < dpB y ∧ E = 0 := by
  unfold chE at h
  split at h
  · omega
  · rename_i hn
    exact ⟨fun a => hn (.inl a), fun a => hn (.inr a), h⟩
theorem ch_ok {y : TB} {E : Int} (h1 : ¬ 65536 < wrap64 (szSs y.l)) (h2 : ¬ 64 < dpB y) (h3 : E = 0) : chE y E = 0 := by
  unfold chE
  rw [if_neg (fun a => a.elim h1 h2), h3]
theorem sz_small {y : TB} (h : rkB y ≤ 1048576) : wrap64 (szSs y.l) = szSs y.l := by
  have h1 : szB y ≤ rkB y := sz_rk _ (.inr y) (Nat.lt_succ_self _)
  rw [szB_eq] at h1
  exact wrap_id (by omega) (by omega)
/-- The bodies of its functions are accepted. -/
theorem acc_body {y : TB} (hr : rkB y ≤ 1048576) (h : chE y (cbE y) = 0) : ∀ f ∈ fnsB y, chE (bodyB f) (cbE (bodyB f)) = 0 := by
  intro f hf
  rcases List.mem_cons.1 hf with rfl | hf
  · have e : bodyB (mainF y) = y := by cases y; rfl
    rw [e]
    exact h
  · obtain ⟨x, hx, hf⟩ := List.mem_flatMap.1 hf
    obtain ⟨h1, h2, h3⟩ := ch_zero h
    rw [sz_small hr] at h1
    have a1 := sz_exs x hx
    have a2 := dp_exs hr x hx
    have a3 := rk_exs x hx
    have b1 := szF_in hf
    rw [szF_eq] at b1
    have b2 := szX_eq x
    have c1 : rkB (bodyB f) < rkX x := fun_rk hf
    have c2 := mx_in dpF hf
    have c3 := dpX_un (z := x) (by omega)
    have c4 : dpB (bodyB f) = dpF f := (dpB_eq _).trans (dpF_eq f).symm
    have c5 := sz_small (y := bodyB f) (by omega)
    have c6 : szSs (bodyB f).l = szSs f.body := rfl
    refine ch_ok ?_ ?_ (good_fun (good_exs h3 x hx) f hf)
    · rw [c5, c6]; omega
    · rw [c4]; omega
theorem ite_b {c : Prop} [Decidable c] {a b : Bool} (h : (if c then a else b) = true) : (c ∧ a = true) ∨ b = true := by
  by_cases hc : c
  · rw [if_pos hc] at h; exact .inl ⟨hc, h⟩
  · rw [if_neg hc] at h; exact .inr h
theorem csE_ret (x : TX) (b : Nat) : csE (retS x b) true = 0 := by
  unfold csE fsB cntB fitN retS
  simp
  decide
theorem fitsB_T0 {f : TF} (h : f.name.toList = []) : fitsB T0 f = true := by
  unfold fitsB T0
  simp [h]
/-- Its expressions are accepted, but for items and functions with a name. -/
theorem acc_expr {y : TB} (hr : rkB y ≤ 1048576) (h : chE y (cbE y) = 0) (x : TX) (hx : x ∈ exsB y) (h13 : x.k ≠ 13) (h14 : x.k ≠ 14) (hf : ∀ f, x.funcs = [f] → x.k = 11 → f.name.toList = []) : exE x = 0 := by
  obtain ⟨h1, h2, h3⟩ := ch_zero h
  rw [sz_small hr] at h1
  have a1 := sz_exs x hx
  have a2 := dp_exs hr x hx
  have a3 := rk_exs x hx
  obtain ⟨par, t, hg⟩ := good_exs h3 x hx
  have hall := fe_zero (show fe _ = 0 from hg)
  have hce : ceE x par t = 0 := hall _ List.mem_cons_self
  have hce0 : ceE x 0 T0 = 0 := by
    unfold ceE at hce ⊢
    split at hce
    · omega
    · rename_i q1
      rw [if_neg q1]
      split at hce
      · omega
      · rename_i q2
        rw [if_neg q2]
        split at hce
        · omega
        · rename_i q3
          have q3' : (decide (0 ≤ x.ln) && feB x par) = true := by simpa using q3
          have hfe : feB x 0 = feB x par := by unfold feB; simp only [h13, h14, if_false]
          rw [if_neg (by rw [hfe]; exact q3)]
          split at hce
          · omega
          · rename_i q4
            have q5 : ¬ x.funcs.any (badL T0) = true := by
              intro hb
              obtain ⟨f, hfm, hbf⟩ := List.any_eq_true.1 hb
              have hnb : badL t f = false := by
                cases hq : badL t f with
                | false => rfl
                | true => exact absurd (List.any_eq_true.2 ⟨f, hfm, hq⟩) q4
              have hln : decide (0 ≤ f.ln) = true := by
                unfold badL at hnb
                simp only [Bool.not_eq_false', Bool.and_eq_true] at hnb
                exact hnb.1
              have hfb : feB x par = true := by
                simp only [Bool.and_eq_true] at q3'
                exact q3'.2
              have h11 : x.k = 11 ∧ x.funcs.length = 1 := by
                have hne : x.funcs.length ≠ 0 := fun e => by rw [List.eq_nil_of_length_eq_zero e] at hfm; cases hfm
                have key : ∀ op num str n, hasB x op num str n = true → x.k = 11 := by
                  intro op num str n hh
                  unfold hasB at hh
                  simp only [Bool.and_eq_true, Bool.or_eq_true, beq_iff_eq] at hh
                  rcases hh.2.2.2.2 with q | q
                  · exact q
                  · omega
                have k11 : x.k = 11 := by
                  unfold feB at hfb
                  iterate 19 (rcases ite_b hfb with ⟨hk, hfb⟩ | hfb; focus (first | exact hk | exact key _ _ _ _ hfb | (simp only [Bool.and_eq_true] at hfb; exact key _ _ _ _ hfb.1)))
                  cases hfb
                refine ⟨k11, ?_⟩
                unfold feB at hfb
                simp only [k11] at hfb
                simp at hfb
                omega
              obtain ⟨g, hg1⟩ : ∃ g, x.funcs = [g] := by
                match hq : x.funcs with
                | [g] => exact ⟨g, rfl⟩
                | [] => rw [hq] at h11; simp at h11
                | _ :: _ :: _ => rw [hq] at h11; simp at h11
              rw [hg1] at hfm
              obtain rfl := List.mem_singleton.1 hfm
              have hn := hf f hg1 h11.1
              unfold badL at hbf
              rw [hln, fitsB_T0 hn] at hbf
              cases hbf
            rw [if_neg q5]
            exact hce
  have hck : ckE (rkX x + 1) (.inl x) 0 T0 = 0 := fe_nil fun e he => by
    rcases List.mem_cons.1 he with rfl | he
    · exact hce0
    · exact hall e (List.mem_cons_of_mem _ he)
  have hro : rkB (oneB x 0 0) = rkX x + 2 := by
    rw [rkB_eq]
    show 1 + (rkS (retS x 0) + 0) = _
    rw [rkS_eq]
    show 1 + ((1 + 0 + 0 + 0 + (rkX x + 0) + 0) + 0) = _
    omega
  have hcb : cbE (oneB x 0 0) = 0 := by
    refine fe_nil fun e he => ?_
    obtain ⟨i, hi, rfl⟩ := List.mem_mapIdx.1 he
    obtain rfl : i = 0 := by simp [oneB] at hi; omega
    refine fe_nil fun e he => ?_
    rcases List.mem_cons.1 he with rfl | he
    · exact csE_ret x 0
    · obtain ⟨p, hp, rfl⟩ := List.mem_map.1 he
      obtain rfl : p = .inl x := by simpa [partsS, retS, oneB] using hp
      have ht : tiP (oneB x 0 0).l[0] = T0 := tiP_none _ (by simp [oneB, retS]) (by simp [oneB, retS])
      rw [ht, hro]
      exact (ckE_fuel _ _ (.inl x) 0 T0 (show rkX x < rkX x + 2 by omega) (Nat.lt_succ_self _)).trans hck
  have hsz : szSs (oneB x 0 0).l = szX x + 1 := by
    show szS (retS x 0) + 0 = _
    rw [szS_eq]
    show (1 + 0 + (szX x + 0) + 0) + 0 = _
    omega
  have hdp : dpB (oneB x 0 0) = 1 + dpX x := by
    rw [dpB_un (by omega)]
    have h0 : 0 ≤ dpX x := (dp_rk _ (.inl x) (Nat.lt_succ_self _) (show rkX x ≤ 1048577 by omega)).1
    show 1 + max (dpS (retS x 0)) 0 = _
    rw [dpS_eq]
    show 1 + max (max 0 (max (max (dpX x) 0) 0)) 0 = _
    omega
  refine ch_ok ?_ ?_ hcb
  · rw [sz_small (by omega), hsz]; omega
  · rw [hdp]; omega
end Go.Proofs.Ythkpggpnbdedjaa
