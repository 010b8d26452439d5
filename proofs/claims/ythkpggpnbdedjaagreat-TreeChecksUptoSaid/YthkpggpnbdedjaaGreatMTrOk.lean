/- A statement's parts: their rank, and what they are. -/
import Derived.Test.YthkpggpnbdedjaaGreatMTrS
import Derived.Test.YthkpggpnbdedjaaGreatMTrTl
namespace Go.Proofs.YthkpggpnbdedjaaGreat
open Go.RowKit Go.Instr
set_option linter.unusedVariables false

def rkPt : TX ⊕ TB → Nat
  | .inl x => rkX x
  | .inr y => rkB y
theorem zipP_mem : ∀ (r : List TX) (b : List TB) p, p ∈ zipP r b → (∃ x ∈ r, p = .inl x) ∨ ∃ y ∈ b, p = .inr y
  | [], b, p, h => by obtain ⟨y, hy, rfl⟩ := List.mem_map.1 h; exact .inr ⟨y, hy, rfl⟩
  | x :: r, [], p, h => by obtain ⟨y, hy, rfl⟩ := List.mem_map.1 h; exact .inl ⟨y, hy, rfl⟩
  | x :: r, y :: b, p, h => by
    rcases List.mem_cons.1 h with rfl | h
    · exact .inl ⟨x, List.mem_cons_self, rfl⟩
    · rcases List.mem_cons.1 h with rfl | h
      · exact .inr ⟨y, List.mem_cons_self, rfl⟩
      · rcases zipP_mem r b p h with ⟨z, hz, e⟩ | ⟨z, hz, e⟩
        · exact .inl ⟨z, List.mem_cons_of_mem _ hz, e⟩
        · exact .inr ⟨z, List.mem_cons_of_mem _ hz, e⟩
theorem parts_mem {s : TS} {p : TX ⊕ TB} (h : p ∈ partsS s) : (∃ x, (x ∈ s.left ∨ x ∈ s.right) ∧ p = .inl x) ∨ ∃ y ∈ s.blocks, p = .inr y := by
  unfold partsS at h
  rcases List.mem_append.1 h with h | h
  · obtain ⟨y, hy, rfl⟩ := List.mem_map.1 h; exact .inl ⟨y, .inl hy, rfl⟩
  · split at h
    · rcases List.mem_append.1 h with h | h
      · obtain ⟨y, hy, rfl⟩ := List.mem_map.1 h; exact .inr ⟨y, hy, rfl⟩
      · obtain ⟨y, hy, rfl⟩ := List.mem_map.1 h; exact .inl ⟨y, .inr hy, rfl⟩
    · split at h
      · rcases zipP_mem _ _ _ h with ⟨y, hy, rfl⟩ | ⟨y, hy, rfl⟩
        · exact .inl ⟨y, .inr hy, rfl⟩
        · exact .inr ⟨y, hy, rfl⟩
      · rcases List.mem_append.1 h with h | h
        · obtain ⟨y, hy, rfl⟩ := List.mem_map.1 h; exact .inl ⟨y, .inr hy, rfl⟩
        · obtain ⟨y, hy, rfl⟩ := List.mem_map.1 h; exact .inr ⟨y, hy, rfl⟩
end Go.Proofs.YthkpggpnbdedjaaGreat

/- Titles are answered in every tree; the errors of a part do not hang on the fuel. -/
namespace Go.Proofs.YthkpggpnbdedjaaGreat
open Go.RowKit Go.Instr
set_option linter.unusedVariables false

theorem titles_any (s : TS) (hrk : rkS s ≤ 1048576) : TIc s := by
  by_cases h2 : s.k = 2
  · by_cases hl : s.names.length = 1
    · exact titles_f1 s h2 hl
    · exact titles_f2 s h2 hl
  · by_cases h3 : s.k = 3
    · by_cases hl : s.left.length = 1
      · by_cases hr : s.right.length = 1
        · exact titles_a1 s h3 hl hr hrk
        · exact titles_a0 s h3 (.inr hr)
      · exact titles_a0 s h3 (.inl hl)
    · exact titles_none s h2 h3
theorem part_rk {s : TS} {p : TX ⊕ TB} (hp : p ∈ partsS s) : rkPt p < rkS s := by
  rw [rkS_eq]
  rcases parts_mem hp with ⟨u, hu, rfl⟩ | ⟨u, hu, rfl⟩
  · rcases hu with hu | hu
    · have : rkPt (.inl u) ≤ rkXs s.left := rkXs_mem hu
      omega
    · have : rkPt (.inl u) ≤ rkXs s.right := rkXs_mem hu
      omega
  · have : rkPt (.inr u) ≤ rkBs s.blocks := rkBs_mem hu
    omega
theorem arg_rk {x y : TX} (h : y ∈ x.args) : rkPt (.inl y) < rkPt (.inl x) := by
  have h1 := rkXs_mem h
  have h2 := rkX_eq x
  show rkX y < rkX x
  omega
/-- A function's body as a block. -/
abbrev bodyB (f : TF) : TB := ⟨f.bA, f.bC, f.body⟩
theorem fun_rk {x : TX} {f : TF} (h : f ∈ x.funcs) : rkPt (.inr (bodyB f)) < rkPt (.inl x) := by
  have h1 := rkFs_mem h
  rw [rkF_eq] at h1
  have h2 := rkX_eq x
  have e : rkPt (.inr (bodyB f)) = 1 + rkSs f.body := rkB_eq _
  show _ < rkX x
  omega
theorem stat_rk {y : TB} {s : TS} (h : s ∈ y.l) : rkS s < rkPt (.inr y) := by
  have h1 := rkSs_mem h
  have h2 := rkB_eq y
  show _ < rkB y
  omega
theorem okN_all : ∀ n p, rkPt p ≤ 1048576 → okN n p
  | 0, _, _ => trivial
  | n + 1, .inl x, h => ⟨fun y hy => okN_all n (.inl y) (by have := arg_rk hy; omega), fun f hf => okN_all n (.inr (bodyB f)) (by have := fun_rk hf; omega)⟩
  | n + 1, .inr y, h => fun s hs => ⟨titles_any s (by have := stat_rk hs; omega), fun p hp => okN_all n p (by have := stat_rk hs; have := part_rk hp; omega)⟩

theorem fe_zero : ∀ {l : List Int}, fe l = 0 → ∀ e ∈ l, e = 0
  | a :: l, h, e, he => by
    unfold fe at h
    split at h
    · rename_i ha
      rcases List.mem_cons.1 he with rfl | he
      · exact ha
      · exact fe_zero h e he
    · exact absurd h ‹_›
theorem fe_nil : ∀ {l : List Int}, (∀ e ∈ l, e = 0) → fe l = 0
  | [], _ => rfl
  | a :: l, h => by
    unfold fe
    rw [if_pos (h a List.mem_cons_self)]
    exact fe_nil fun e he => h e (List.mem_cons_of_mem _ he)
theorem ckE_fuel : ∀ n m p par t, rkPt p < n → rkPt p < m → ckE n p par t = ckE m p par t
  | 0, _, _, _, _, h, _ => by omega
  | _ + 1, 0, _, _, _, _, h => by omega
  | n + 1, m + 1, .inl x, par, t, h1, h2 => by
    show fe _ = fe _
    congr 2
    congr 1
    · exact List.map_congr_left fun y hy => ckE_fuel n m _ _ _ (by have := arg_rk hy; omega) (by have := arg_rk hy; omega)
    · exact List.map_congr_left fun f hf => ckE_fuel n m _ _ _ (by have := fun_rk hf; show rkPt (.inr (bodyB f)) < n; omega) (by have := fun_rk hf; show rkPt (.inr (bodyB f)) < m; omega)
  | n + 1, m + 1, .inr y, par, t, h1, h2 => by
    show fe _ = fe _
    congr 1
    apply List.ext_getElem
    · simp
    · intro i hi1 hi2
      have hl : i < y.l.length := by simpa using hi1
      rw [List.getElem_mapIdx, List.getElem_mapIdx]
      congr 2
      have hs := stat_rk (List.getElem_mem hl)
      exact List.map_congr_left fun p hp => ckE_fuel n m _ _ _ (by have := part_rk hp; omega) (by have := part_rk hp; omega)
end Go.Proofs.YthkpggpnbdedjaaGreat
