/- The map of names that package value makes. -/
import Derived.Test.YtfclmnglckikbaaGreatDoorMMem
import Derived.Test.YtfclmnglckikbaaGreatDoorMStr
import Derived.MapKept
import Derived.Carry
namespace Go.Proofs.YtfclmnglckikbaaGreatDoor
open Go.RowKit Go.Instr
set_option linter.unusedVariables false

theorem heap_alloc (w : World) (o : Obj) : (w.alloc o).heap = w.heap.push o := rfl
theorem block_alloc (w : World) (o : Obj) : (w.alloc o).heap[w.heap.size]? = some o := by rw [heap_alloc]; simp
theorem run_check (w : World) (k : Int) (b : Bool) : (checkKey b 10000 3 (.int .i64 k)).run Tryz.prog w = .ok () w := by
  rw [show (10000 : Nat) = 9999 + 1 from rfl, checkKey]
  rw [Sem.run_bind, run_underlying Tryz.underlying3, Result.andThen_ok]
  rfl
theorem run_find (w : World) (k : Int) (es : List MapEntry) (r : Option (Nat × Value)) (h : findNow (.int .i64) (.int .i64 k) es 0 = some r) : (findKey 3 (.int .i64 k) es).run Tryz.prog w = .ok r w := by
  unfold findKey
  rw [Sem.run_bind, run_underlying Tryz.underlying3, Result.andThen_ok, h]
  rfl
/-- A new key in a map that was made last. -/
theorem run_insert (w : World) (es : Array MapEntry) (c : Nat) (k : Int) (v : Value) (h : findNow (.int .i64) (.int .i64 k) es.toList 0 = some none) :
    (mapUpdate 113 (.map (some w.heap.size)) (.int .i64 k) v).run Tryz.prog (w.alloc (.map es c)) = .ok () (w.alloc (.map (es.push { key := .int .i64 k, val := v, born := c }) (c + 1))) := by
  have hb := block_alloc w (.map es c)
  unfold mapUpdate
  rw [Sem.run_bind, run_underlying Tryz.underlying113, Result.andThen_ok]
  simp only []
  rw [Sem.run_bind, MapKept.run_getObj_map hb, Result.andThen_ok]
  simp only []
  rw [Sem.run_bind, run_check, Result.andThen_ok, Sem.run_bind, run_find _ _ _ _ h, Result.andThen_ok]
  simp only []
  rw [MapKept.run_setObj_map _ hb]
  congr 1
  have hp : ∀ x y : Obj, (w.heap.push x).setIfInBounds w.heap.size y = w.heap.push y := by
    intro x y
    apply Array.ext
    · simp
    · intro i h1 h2
      have h3 : i < (w.heap.push x).size := by simpa using h1
      rw [Array.getElem_setIfInBounds h3, Array.getElem_push, Array.getElem_push]
      rw [Array.size_push] at h3
      split <;> split <;> first | rfl | omega
  show ({ w with heap := (w.heap.push _).setIfInBounds w.heap.size _ } : World) = { w with heap := w.heap.push _ }
  rw [hp]
theorem run_look (w : World) (m : Nat) (es : Array MapEntry) (c : Nat) (hb : w.heap[m]? = some (.map es c)) (k : Int) (i : Nat) (v : Value) (h : findNow (.int .i64) (.int .i64 k) es.toList 0 = some (some (i, v))) :
    (lookup 113 (.map (some m)) (.int .i64 k) false).run Tryz.prog w = .ok v w := by
  unfold lookup
  rw [Sem.run_bind, run_underlying Tryz.underlying113, Result.andThen_ok]
  simp only []
  rw [Sem.run_bind, MapKept.run_getObj_map hb, Result.andThen_ok]
  simp only []
  rw [Sem.run_bind, Sem.run_pure, Result.andThen_ok, Sem.run_bind, run_check, Result.andThen_ok, Sem.run_bind, run_find _ _ _ _ h, Result.andThen_ok]
  rfl
theorem zero_string (w : World) : (zeroValue 9).run Tryz.prog w = .ok (.string ⟨#[]⟩) w := by kernel_rfl
theorem run_look_no (w : World) (m : Nat) (es : Array MapEntry) (c : Nat) (hb : w.heap[m]? = some (.map es c)) (k : Int) (h : findNow (.int .i64) (.int .i64 k) es.toList 0 = some none) :
    (lookup 113 (.map (some m)) (.int .i64 k) false).run Tryz.prog w = .ok (.string ⟨#[]⟩) w := by
  unfold lookup
  rw [Sem.run_bind, run_underlying Tryz.underlying113, Result.andThen_ok]
  simp only []
  rw [Sem.run_bind, MapKept.run_getObj_map hb, Result.andThen_ok]
  simp only []
  rw [Sem.run_bind, Sem.run_pure, Result.andThen_ok, Sem.run_bind, run_check, Result.andThen_ok, Sem.run_bind, run_find _ _ _ _ h, Result.andThen_ok]
  simp only []
  rw [Sem.run_bind, zero_string, Result.andThen_ok]
  rfl

def nEnt (k : Int) (s : Array UInt8) (b : Nat) : MapEntry := { key := .int .i64 k, val := .string ⟨s⟩, born := b }
/-- The names of the kinds. -/
def names9 : Array MapEntry := #[nEnt 0 #[110, 105, 108] 0, nEnt 1 #[98, 111, 111, 108, 101, 97, 110] 1, nEnt 2 #[110, 117, 109, 98, 101, 114] 2, nEnt 3 #[115, 116, 114, 105, 110, 103] 3, nEnt 4 #[116, 97, 98, 108, 101] 4,
  nEnt 5 #[102, 117, 110, 99, 116, 105, 111, 110] 5, nEnt 6 #[102, 117, 110, 99, 116, 105, 111, 110] 6, nEnt 7 #[116, 104, 114, 101, 97, 100] 7, nEnt 8 #[117, 115, 101, 114, 100, 97, 116, 97] 8]
def namesUpto (n : Nat) : Array MapEntry := names9.extract 0 n
theorem ins_step (w : World) (n : Nat) (k : Int) (s : Array UInt8) (b : Nat) (he : (names9)[n]? = some (nEnt k s b)) (hb : b = n) (hn : findNow (.int .i64) (.int .i64 k) (namesUpto n).toList 0 = some none) (hp : (namesUpto n).push (nEnt k s b) = namesUpto (n + 1)) :
    (mapUpdate 113 (.map (some w.heap.size)) (.int .i64 k) (.string ⟨s⟩)).run Tryz.prog (w.alloc (.map (namesUpto n) n)) = .ok () (w.alloc (.map (namesUpto (n + 1)) (n + 1))) := by
  rw [run_insert w _ _ _ _ hn, ← hp]
  subst hb
  rfl

set_option maxHeartbeats 1000000 in
theorem names_any (w : World) : Calls Tryz.prog 108 #[] w fun e w' => e = .returned (.map (some w.heap.size)) ∧ w' = w.alloc (.map (namesUpto 9) 9) := by
  have hmm : ∀ w : World, (Instr.makeMap 113 none).run Tryz.prog w = .ok (.map (some w.heap.size)) (w.alloc (.map (namesUpto 0) 0)) := fun w => rfl
  have h0 := ins_step w 0 0 _ _ rfl rfl rfl rfl
  have h1 := ins_step w 1 1 _ _ rfl rfl rfl rfl
  have h2 := ins_step w 2 2 _ _ rfl rfl rfl rfl
  have h3 := ins_step w 3 3 _ _ rfl rfl rfl rfl
  have h4 := ins_step w 4 4 _ _ rfl rfl rfl rfl
  have h5 := ins_step w 5 5 _ _ rfl rfl rfl rfl
  have h6 := ins_step w 6 6 _ _ rfl rfl rfl rfl
  have h7 := ins_step w 7 7 _ _ rfl rfl rfl rfl
  have h8 := ins_step w 8 8 _ _ rfl rfl rfl rfl
  go_enter Tryz.func108, Tryz.ntmps108
  go_wp2
  go_returns
  exact ⟨rfl, rfl⟩

/-- The name of a kind. -/
def typeN (k : Int) : ByteArray :=
  if k = 0 then ⟨#[110, 105, 108]⟩ else if k = 1 then ⟨#[98, 111, 111, 108, 101, 97, 110]⟩ else if k = 2 then ⟨#[110, 117, 109, 98, 101, 114]⟩ else if k = 3 then ⟨#[115, 116, 114, 105, 110, 103]⟩ else if k = 4 then ⟨#[116, 97, 98, 108, 101]⟩
  else if k = 5 then ⟨#[102, 117, 110, 99, 116, 105, 111, 110]⟩ else if k = 6 then ⟨#[102, 117, 110, 99, 116, 105, 111, 110]⟩ else if k = 7 then ⟨#[116, 104, 114, 101, 97, 100]⟩ else if k = 8 then ⟨#[117, 115, 101, 114, 100, 97, 116, 97]⟩ else ⟨#[]⟩
theorem kinds (k : Int) : k = 0 ∨ k = 1 ∨ k = 2 ∨ k = 3 ∨ k = 4 ∨ k = 5 ∨ k = 6 ∨ k = 7 ∨ k = 8 ∨ (k < 0 ∨ 8 < k) := by omega
theorem look_name (w : World) (m : Nat) (hb : w.heap[m]? = some (.map (namesUpto 9) 9)) (k : Int) :
    (lookup 113 (.map (some m)) (.int .i64 k) false).run Tryz.prog w = .ok (.string (typeN k)) w := by
  rcases kinds k with rfl | rfl | rfl | rfl | rfl | rfl | rfl | rfl | rfl | h
  · exact run_look w m _ 9 hb 0 0 _ rfl
  · exact run_look w m _ 9 hb 1 1 _ rfl
  · exact run_look w m _ 9 hb 2 2 _ rfl
  · exact run_look w m _ 9 hb 3 3 _ rfl
  · exact run_look w m _ 9 hb 4 4 _ rfl
  · exact run_look w m _ 9 hb 5 5 _ rfl
  · exact run_look w m _ 9 hb 6 6 _ rfl
  · exact run_look w m _ 9 hb 7 7 _ rfl
  · exact run_look w m _ 9 hb 8 8 _ rfl
  · have e : typeN k = ⟨#[]⟩ := by
      unfold typeN
      rw [if_neg (by omega), if_neg (by omega), if_neg (by omega), if_neg (by omega), if_neg (by omega), if_neg (by omega), if_neg (by omega), if_neg (by omega), if_neg (by omega)]
    rw [e]
    refine run_look_no w m _ 9 hb k ?_
    have hk : ∀ j : Int, 0 ≤ j → j ≤ 8 → (k == j) = false := fun j h1 h2 => by simp; omega
    show findNow _ _ [nEnt 0 _ 0, nEnt 1 _ 1, nEnt 2 _ 2, nEnt 3 _ 3, nEnt 4 _ 4, nEnt 5 _ 5, nEnt 6 _ 6, nEnt 7 _ 7, nEnt 8 _ 8] 0 = _
    simp only [findNow, sameNow, nEnt, if_true, hk 0 (by omega) (by omega), hk 1 (by omega) (by omega), hk 2 (by omega) (by omega), hk 3 (by omega) (by omega), hk 4 (by omega) (by omega), hk 5 (by omega) (by omega), hk 6 (by omega) (by omega), hk 7 (by omega) (by omega), hk 8 (by omega) (by omega)]
/-- A value as the walk has it. -/
abbrev vV (k p q : Int) (s : ByteArray) (r : Int) : Value := .agg #[.int .i64 k, .int .i64 p, .int .i64 q, .string s, .int .i64 r]

set_option maxHeartbeats 1000000 in
set_option maxRecDepth 100000 in
theorem type_any (k p q : Int) (s : ByteArray) (r : Int) (w : World) : Calls Tryz.prog 87 #[vV k p q s r] w fun e w' => e = .returned (.string (typeN k)) ∧ Below w.heap.size w w' := by
  have hl := fun o : Obj => look_name (((w.alloc o).alloc (.map (namesUpto 9) 9)).drew) (w.heap.size + 1) (by show ((w.alloc o).alloc _).heap[_]? = _; rw [show w.heap.size + 1 = (w.alloc o).heap.size by simp]; exact block_alloc _ _) k
  obtain ⟨T, hT⟩ : ∃ T, typeN k = T := ⟨_, rfl⟩
  rw [hT] at hl ⊢
  clear hT
  go_enter Tryz.func87, Tryz.ntmps87
  go_wp2_with fail
  go_region_with (go_at_call 108; refine (names_any _).mono ?_; rintro e w2 ⟨rfl, rfl⟩)
  all_goals go_wp2_with fail
  all_goals go_returns
  all_goals refine ⟨rfl, ?_⟩
  all_goals (repeat' (first | (with_reducible exact Below.refl _ _) | (with_reducible assumption) | (with_reducible refine Below.alloc ?_ ?_ _) | (with_reducible refine below_drewN ?_ _) | (with_reducible refine Below.drew ?_) | (with_reducible refine Below.setCell ?_ ?_ _) | (with_reducible refine below_via (by assumption) ?_ ?_) | (with_reducible refine below_via (later_below _) ?_ ?_) | (with_reducible exact Nat.le_refl _) | omega | (simp; omega) | (simp; done)))
end Go.Proofs.YtfclmnglckikbaaGreatDoor
