/- The program's directive of a format. -/
import Derived.Test.YtemlijadhdejeaaGreatDoorMFmW1
import Derived.Deep.QuietTactic
import Derived.BigQuiet
import Derived.RegionTactic
namespace Go.Proofs.YtemlijadhdejeaaGreatDoor
open Go.RowKit Go.Instr
set_option linter.unusedVariables false

/-- What directive hands back. -/
def dirV (i : Nat) (o : Option (Pc × Nat)) : Value :=
  match o with
  | none => .tuple #[.agg #[.string ⟨#[]⟩, .int .u8 0, .bool false, .bool false, .bool false, .int .i64 0, .int .i64 0], .int .i64 0, .bool false]
  | some x => .tuple #[.agg #[.string ⟨#[]⟩, .int .u8 x.1.v, .bool x.1.mi, .bool x.1.ze, .bool x.1.pl, .int .i64 x.1.w, .int .i64 x.1.n], .int .i64 ((i + x.2 : Nat) : Int), .bool true]
theorem flag_dec : ∀ c : Fin 256, decide (0 ≤ Lib.indexByte [45, 48, 43] (UInt8.ofNat c.val)) = flagB (UInt8.ofNat c.val) := by decide +kernel
theorem flag_is (c : UInt8) : decide (0 ≤ Lib.indexByte (⟨#[45, 48, 43]⟩ : ByteArray).data.toList c) = flagB c := by
  have := flag_dec ⟨c.toNat, UInt8.toNat_lt c⟩
  simpa using this
theorem verb_dec : ∀ c : Fin 256, decide (0 ≤ Lib.indexByte [100, 120, 88, 111, 102, 115, 99, 113, 103] (UInt8.ofNat c.val)) = verbB (UInt8.ofNat c.val) := by decide +kernel
theorem verb_is (c : UInt8) : decide (0 ≤ Lib.indexByte (⟨#[100, 120, 88, 111, 102, 115, 99, 113, 103]⟩ : ByteArray).data.toList c) = verbB c := by
  have := verb_dec ⟨c.toNat, UInt8.toNat_lt c⟩
  simpa using this
/-- IndexByte as a test. -/
theorem fidx_any (s : ByteArray) (c : UInt8) (b : Bool) (h : decide (0 ≤ Lib.indexByte s.data.toList c) = b) : ∃ J : Int, (decide (0 ≤ J) = b ∧ decide (J < 0) = !b) ∧ ∀ w, Calls Tryz.prog 43 #[.string s, .int .u8 c.toNat] w fun e w' => e = .returned (.int .i64 J) ∧ w = w' := by
  refine ⟨Lib.indexByte s.data.toList c, ⟨h, ?_⟩, fun w => ?_⟩
  · rw [← h]
    by_cases h0 : 0 ≤ Lib.indexByte s.data.toList c
    · rw [decide_eq_true h0, decide_eq_false (by omega)]; rfl
    · rw [decide_eq_false h0, decide_eq_true (by omega)]; rfl
  · have := Tryz.strings_IndexByte s (c.toNat : Int) w
    have ec : ((c.toNat : Int).toNat.toUInt8) = c := by simp
    rw [ec] at this
    exact this.mono fun _ _ ⟨he, hw⟩ => ⟨he, hw.symm⟩

theorem span_more {p : UInt8 → Bool} {c : UInt8} : ∀ {l : List UInt8} {j : Nat}, j ≤ spanN p l → l[j]? = some c → p c = true → j + 1 ≤ spanN p l
  | [], j, _, h, _ => by simp at h
  | d :: l, 0, _, h, hp => by
    simp at h; subst h
    rw [spanN_yes hp]; omega
  | d :: l, j + 1, h1, h, hp => by
    cases hd : p d
    · rw [spanN_no hd] at h1; omega
    · rw [spanN_yes hd] at h1 ⊢
      have := span_more (l := l) (j := j) (by omega) (by simpa using h) hp
      omega
/-- The flags that are read. -/
def flagsAt (L : List UInt8) (n : Nat) (mi ze pl : Bool) : Prop := n ≤ spanN flagB L ∧ (L.take n).contains 45 = mi ∧ (L.take n).contains 48 = ze ∧ (L.take n).contains 43 = pl
theorem flagsAt.step {L : List UInt8} {n : Nat} {mi ze pl : Bool} {c : UInt8} (h : flagsAt L n mi ze pl) (hc : L[n]? = some c) (hf : flagB c = true) : flagsAt L (n + 1) (mi || decide (c.toNat = 45)) (ze || decide (c.toNat = 48)) (pl || decide (c.toNat = 43)) := by
  obtain ⟨h1, h2, h3, h4⟩ := h
  have hn : n < L.length := (List.getElem?_eq_some_iff.1 hc).1
  have he : L[n] = c := (List.getElem?_eq_some_iff.1 hc).2
  have e : ∀ x : UInt8, (L.take (n + 1)).contains x = ((L.take n).contains x || decide (c.toNat = x.toNat)) := by
    intro x
    rw [List.take_succ_eq_append_getElem hn, he, List.contains_append]
    congr 1
    by_cases hx : c = x
    · subst hx; simp
    · have : ¬ c.toNat = x.toNat := fun h => hx (UInt8.toNat_inj.1 h)
      rw [decide_eq_false this]
      simpa using fun h => hx h.symm
  refine ⟨span_more h1 hc hf, ?_, ?_, ?_⟩
  · rw [e, h2]; rfl
  · rw [e, h3]; rfl
  · rw [e, h4]; rfl

/-- At most two digits, as far as they are read. -/
def digsAt (r : List UInt8) (j W : Nat) : Prop := (j = 0 ∧ W = 0) ∨ (j = 1 ∧ ∃ c t, r = c :: t ∧ digB c = true ∧ W = c.toNat - 48) ∨ (j = 2 ∧ ∃ c d t, r = c :: d :: t ∧ digB c = true ∧ digB d = true ∧ W = (c.toNat - 48) * 10 + (d.toNat - 48))
theorem dig_bd9 {c : UInt8} (h : digB c = true) : 48 ≤ c.toNat ∧ c.toNat ≤ 57 := by unfold digB at h; simpa using h
theorem digsAt.bd {r : List UInt8} {j W : Nat} (h : digsAt r j W) : j ≤ 2 ∧ W ≤ 99 ∧ j ≤ r.length := by
  rcases h with ⟨rfl, rfl⟩ | ⟨rfl, c, t, rfl, hc, rfl⟩ | ⟨rfl, c, d, t, rfl, hc, hd, rfl⟩
  · simp
  · have := dig_bd9 hc; simp; omega
  · have := dig_bd9 hc; have := dig_bd9 hd; simp; omega
theorem digsAt.step {r : List UInt8} {j W : Nat} {x : UInt8} (h : digsAt r j W) (hj : j < 2) (hx : r[j]? = some x) (hd : digB x = true) : digsAt r (j + 1) (W * 10 + (x.toNat - 48)) := by
  rcases h with ⟨rfl, rfl⟩ | ⟨rfl, c, t, rfl, hc, rfl⟩ | ⟨rfl, -⟩
  · cases r with
    | nil => cases hx
    | cons c t =>
      simp at hx; subst hx
      exact .inr (.inl ⟨rfl, c, t, rfl, hd, by omega⟩)
  · cases t with
    | nil => simp at hx
    | cons d t =>
      simp at hx; subst hx
      exact .inr (.inr ⟨rfl, c, d, t, rfl, hc, hd, rfl⟩)
  · omega
theorem digsAt.done {r : List UInt8} {j W : Nat} (h : digsAt r j W) (hx : j = 2 ∨ ∀ x, r[j]? = some x → digB x = false) : twoD r = (W, j) := by
  rcases h with ⟨rfl, rfl⟩ | ⟨rfl, c, t, rfl, hc, rfl⟩ | ⟨rfl, c, d, t, rfl, hc, hd, rfl⟩
  · cases r with
    | nil => rfl
    | cons c t =>
      have := hx.resolve_left (by decide) c rfl
      simp [twoD, this]
  · cases t with
    | nil => simp [twoD, hc]
    | cons d t =>
      have := hx.resolve_left (by decide) d rfl
      simp [twoD, hc, this]
  · simp [twoD, hc, hd]
end Go.Proofs.YtemlijadhdejeaaGreatDoor
