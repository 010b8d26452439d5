/- The lexer's escapes. -/
import Derived.Test.YtemlijadhdejeaaGreatDoorMLxC
namespace Go.Proofs.YtemlijadhdejeaaGreatDoor
open Go.RowKit Go.Instr
set_option linter.unusedVariables false

/-- What an escape hands back. -/
def escV (s : ByteArray) (i : Nat) (x : Int × Nat × Nat) : Value := if x.1 = 0 then .tuple #[.int .u8 x.2.1, .int .i64 ((i + 1 + x.2.2 : Nat) : Int), .int .i64 0] else .tuple #[.int .u8 0, .int .i64 0, .int .i64 x.1]
theorem escV_ok {s : ByteArray} {i b n : Nat} {x : Int × Nat × Nat} (h : x = (0, b, n)) : escV s i x = .tuple #[.int .u8 b, .int .i64 ((i + 1 + n : Nat) : Int), .int .i64 0] := by rw [h]; rfl
theorem escV_err {s : ByteArray} {i : Nat} {e : Int} {x : Int × Nat × Nat} (h : x = (e, 0, 0)) (he : e ≠ 0) : escV s i x = .tuple #[.int .u8 0, .int .i64 0, .int .i64 e] := by rw [h]; exact if_neg he

section
variable (s : ByteArray) (i : Nat)
theorem esc_at (h : i + 1 < s.size) : s.data.toList.drop (i + 1) = s[i + 1]'h :: s.data.toList.drop (i + 2) := drop_get s (i + 1) h
theorem esc_end (h : s.size ≤ i + 1) : escT (s.data.toList.drop (i + 1)) = (4, 0, 0) := by rw [List.drop_eq_nil_of_le (by simpa using h)]; rfl
variable (h : i + 1 < s.size)
include h
theorem esc_n (hc : (s[i + 1]'h).toNat = 110) : escT (s.data.toList.drop (i + 1)) = (0, 10, 1) := by
  rw [esc_at s i h]; unfold escT; simp only []; rw [if_pos hc]
theorem esc_t (hc : (s[i + 1]'h).toNat = 116) : escT (s.data.toList.drop (i + 1)) = (0, 9, 1) := by
  rw [esc_at s i h]; unfold escT; simp only []; rw [if_neg (by omega), if_pos hc]
theorem esc_q (hc : (s[i + 1]'h).toNat = 92 ∨ (s[i + 1]'h).toNat = 39 ∨ (s[i + 1]'h).toNat = 34) : escT (s.data.toList.drop (i + 1)) = (0, (s[i + 1]'h).toNat, 1) := by
  rw [esc_at s i h]; unfold escT; simp only []; rw [if_neg (by omega), if_neg (by omega), if_pos hc]
theorem esc_x (hc : (s[i + 1]'h).toNat = 120) : escT (s.data.toList.drop (i + 1)) = if 2 ≤ spanN hexB (s.data.toList.drop (i + 2)) then (0, valN 16 ((s.data.toList.drop (i + 2)).take 2), 3) else (4, 0, 0) := by
  rw [esc_at s i h]; unfold escT; simp only []; rw [if_neg (by omega), if_neg (by omega), if_neg (by omega), if_pos hc]
theorem esc_d (h0 : (s[i + 1]'h).toNat ≠ 110) (h1 : (s[i + 1]'h).toNat ≠ 116) (h2 : ¬ ((s[i + 1]'h).toNat = 92 ∨ (s[i + 1]'h).toNat = 39 ∨ (s[i + 1]'h).toNat = 34)) (h3 : (s[i + 1]'h).toNat ≠ 120) (hd : digB (s[i + 1]'h) = true) :
    escT (s.data.toList.drop (i + 1)) = if 255 < valN 10 ((s.data.toList.drop (i + 1)).take (min (spanN digB (s.data.toList.drop (i + 1))) 3)) then (6, 0, 0) else (0, valN 10 ((s.data.toList.drop (i + 1)).take (min (spanN digB (s.data.toList.drop (i + 1))) 3)), min (spanN digB (s.data.toList.drop (i + 1))) 3) := by
  rw [esc_at s i h]; unfold escT; simp only []; rw [if_neg h0, if_neg h1, if_neg h2, if_neg h3, if_pos hd]
theorem esc_no (h0 : (s[i + 1]'h).toNat ≠ 110) (h1 : (s[i + 1]'h).toNat ≠ 116) (h2 : ¬ ((s[i + 1]'h).toNat = 92 ∨ (s[i + 1]'h).toNat = 39 ∨ (s[i + 1]'h).toNat = 34)) (h3 : (s[i + 1]'h).toNat ≠ 120) (hd : digB (s[i + 1]'h) = false) :
    escT (s.data.toList.drop (i + 1)) = (4, 0, 0) := by
  rw [esc_at s i h]; unfold escT; simp only []; rw [if_neg h0, if_neg h1, if_neg h2, if_neg h3, if_neg (by rw [hd]; simp)]
end
theorem quote_dec : ∀ c : Fin 256, decide (0 ≤ Lib.indexByte [92, 39, 34] (UInt8.ofNat c.val)) = decide (c.val = 92 ∨ c.val = 39 ∨ c.val = 34) := by decide +kernel
theorem quote_is (c : UInt8) : decide (0 ≤ Lib.indexByte (⟨#[92, 39, 34]⟩ : ByteArray).data.toList c) = decide (c.toNat = 92 ∨ c.toNat = 39 ∨ c.toNat = 34) := by
  have := quote_dec ⟨c.toNat, UInt8.toNat_lt c⟩
  simpa using this
/-- A byte that stands for itself behind a backslash. -/
def qteB (c : UInt8) : Bool := decide (c.toNat = 92 ∨ c.toNat = 39 ∨ c.toNat = 34)
theorem hex_dec : ∀ c : Fin 256, hexB (UInt8.ofNat c.val) = true → 48 ≤ c.val ∧ c.val ≤ 102 ∧ hexV (UInt8.ofNat c.val) ≤ 15 := by decide +kernel
theorem hex_bd3 {c : UInt8} (h : hexB c = true) : 48 ≤ c.toNat ∧ c.toNat ≤ 102 ∧ hexV c ≤ 15 := by
  have := hex_dec ⟨c.toNat, UInt8.toNat_lt c⟩ (by simpa using h)
  simpa using this
theorem hex_bd {c : UInt8} (h : hexB c = true) : 48 ≤ c.toNat ∧ c.toNat ≤ 102 := ⟨(hex_bd3 h).1, (hex_bd3 h).2.1⟩
theorem dig_bd {c : UInt8} (h : digB c = true) : 48 ≤ c.toNat ∧ c.toNat ≤ 102 := by
  unfold digB at h
  simp at h
  omega
theorem hex_two {l : List UInt8} (hl : l.length = 2) (h : ∀ c ∈ l, hexB c = true) : valN 16 l ≤ 255 := by
  match l, hl with
  | [x, y], _ =>
    have h1 := (hex_bd3 (h x (by simp))).2.2
    have h2 := (hex_bd3 (h y (by simp))).2.2
    show (0 * 16 + hexV x) * 16 + hexV y ≤ _
    omega
theorem IsTest.ask {w : World} {v : Value} {p : UInt8 → Bool} (h : IsTest w v p) {c : UInt8} {b : Bool} (hp : p c = b) : ∃ g lb, v = .func (.func g) #[] lb ∧ (∀ args u, (callFunc g args).run Tryz.prog u = .ok (.enter g args) u) ∧
    Hid (∀ (W : World), Below w.heap.size w W → Calls Tryz.prog g (#[.int .u8 c.toNat] ++ lb) W fun e W' => e = .returned (.bool b) ∧ Below W.heap.size W W') := by
  obtain ⟨g, lb, h1, h2, h3⟩ := h
  exact ⟨g, lb, h1, h2, fun W hb => by rw [← hp]; exact h3 W c hb⟩
end Go.Proofs.YtemlijadhdejeaaGreatDoor
