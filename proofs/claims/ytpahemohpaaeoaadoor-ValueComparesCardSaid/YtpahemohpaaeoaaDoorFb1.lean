/- internal/strconv.formatBits: the digits of an unsigned integer in a base. -/
import Derived.Test.YtpahemohpaaeoaaDoorStr
import Derived.Test.YtpahemohpaaeoaaDoorNumPlain
namespace Go.Proofs.YtpahemohpaaeoaaDoor
open Go.RowKit
set_option linter.unusedVariables false

/-- A block that is known whole. -/
def Blk (w : World) (g : Nat) (t : TypeId) (cs : Array Value) : Prop := w.heap[g]? = some (.cells cs t (0, 0))
theorem Blk.cell {w : World} {g : Nat} {t : TypeId} {cs : Array Value} (h : Blk w g t cs) (i : Nat) : w.cell? ⟨g, i, none⟩ = cs[i]? := cell_of_row w g i cs t (0, 0) h
theorem Blk.frozen {w : World} {g : Nat} {t : TypeId} {cs : Array Value} (h : Blk w g t cs) (i : Nat) : w.frozen? ⟨g, i, none⟩ = false := by
  unfold Blk at h
  simp [World.frozen?, h]
theorem Blk.new (w : World) (t : TypeId) (cs : Array Value) : Blk (w.alloc (.cells cs t)) w.heap.size t cs := heap_alloc_new w _
theorem Blk.set_ {w : World} {g : Nat} {t : TypeId} {cs : Array Value} (h : Blk w g t cs) (i : Nat) (u : Value) : Blk (w.setCell ⟨g, i, none⟩ u) g t (cs.setIfInBounds i u) := by
  unfold Blk at h ⊢
  simp [World.setCell, Array.getElem?_modify, h]

theorem ipt_any (b : Int) (h1 : 2 ≤ b) (h2 : b ≤ 36) (r : Bool) (hr : (bits BinOp.and IntKind.i64 b (b - 1) == 0) = r) (w : World) :
    Calls Tryd.prog 85 #[.int .i64 b] w fun e w' => e = .returned (.bool r) ∧ w = w' := by
  subst hr
  go_enter Tryd.func85, Tryd.ntmps85
  go_wp2
  go_returns
  exact ⟨rfl, rfl⟩

/-- The last digits stand in the block, from k on. -/
def Digs (w : World) (g : Nat) (b u0 v k : Nat) (L : List UInt8) : Prop :=
  bDigits b u0 = bDigits b v ++ L ∧ k + L.length = 65 ∧ ∃ cs : Array Value, Blk w g 90 cs ∧ cs.size = 65 ∧ ∀ j, (h : j < L.length) → cs[k + j]? = some (.int .u8 (L[j]).toNat)

theorem fb_arith (v b : Nat) (hb : 2 ≤ b) (hv : v < 18446744073709551616) : ∃ q r : Nat, q = v / b ∧ r = v % b ∧ r < b ∧ q < v + 1 ∧ IntKind.u64.wrap ((v : Int) / b) = q ∧ IntKind.u64.wrap ((v : Int) - IntKind.u64.wrap ((q : Int) * b)) = r := by
  have h := Nat.div_add_mod v b
  rw [Nat.mul_comm] at h
  have hle := Nat.div_le_self v b
  have hm := Nat.mod_lt v (show b > 0 by omega)
  have e1 : (v : Int) / b = ((v / b : Nat) : Int) := (Int.natCast_ediv v b).symm
  rw [e1]
  generalize v / b = q at *
  generalize v % b = r at *
  refine ⟨q, r, rfl, rfl, hm, by omega, ?_, ?_⟩
  · rw [IntKind.wrap_u64]; omega
  · have h2 : ((q * b : Nat) : Int) = (q : Int) * (b : Int) := by push_cast; rfl
    rw [← h2, IntKind.wrap_u64, IntKind.wrap_u64]
    generalize q * b = m at *
    omega

theorem digits_at : ∀ d : Fin 36, ((⟨#[48, 49, 50, 51, 52, 53, 54, 55, 56, 57, 97, 98, 99, 100, 101, 102, 103, 104, 105, 106, 107, 108, 109, 110, 111, 112, 113, 114, 115, 116, 117, 118, 119, 120, 121, 122]⟩ : ByteArray).data.toList.getD d.val 0) = nameN d.val := by decide +kernel

theorem bDigits_len (b : Nat) (hb : 2 ≤ b) : ∀ (k u : Nat), 1 ≤ k → u < 2 ^ k → (bDigits b u).length ≤ k
  | 0, _, h, _ => by omega
  | k + 1, u, _, hu => by
    by_cases h : u < b
    · rw [bDigits_small h]; simp
    · rw [bDigits_big hb h]
      have h1 : u / b ≤ u / 2 := Nat.div_le_div_left hb (by omega)
      rw [Nat.pow_succ] at hu
      have hk : 1 ≤ k := by
        rcases Nat.eq_zero_or_pos k with rfl | hk
        · simp at hu; omega
        · exact hk
      have := bDigits_len b hb k (u / b) hk (by omega)
      simp; omega
theorem bDigits_pos (b u : Nat) : 1 ≤ (bDigits b u).length := by
  have := bDigits_ne b u
  cases h : bDigits b u
  · exact absurd h this
  · simp

/-- Where the next digit goes. -/
theorem Digs.bound {w : World} {g b u0 v k : Nat} {L : List UInt8} (h : Digs w g b u0 v k L) (hb : 2 ≤ b) (hu : u0 < 2 ^ 64) : k ≤ 65 ∧ 2 ≤ k := by
  obtain ⟨h1, h2, _⟩ := h
  have h3 := bDigits_len b hb 64 u0 (by omega) hu
  have h4 := bDigits_pos b v
  rw [h1] at h3
  simp at h3
  omega
theorem Digs.cell {w : World} {g b u0 v k : Nat} {L : List UInt8} (h : Digs w g b u0 v k L) (i : Nat) (hi : i < 65) : (∃ x, w.cell? ⟨g, i, none⟩ = some x) ∧ w.frozen? ⟨g, i, none⟩ = false := by
  obtain ⟨_, _, cs, h3, h4, _⟩ := h
  refine ⟨⟨cs[i]'(by omega), ?_⟩, h3.frozen i⟩
  rw [h3.cell]
  exact Array.getElem?_eq_getElem (by omega)

/-- One digit more. -/
theorem Digs.step {w : World} {g b u0 v k : Nat} {L : List UInt8} (h : Digs w g b u0 v k L) (hb : 2 ≤ b) (hv : b ≤ v) (hk : 1 ≤ k) (d : UInt8) (hd : d = nameN (v % b)) :
    Digs (w.setCell ⟨g, k - 1, none⟩ (.int .u8 d.toNat)) g b u0 (v / b) (k - 1) (d :: L) := by
  obtain ⟨h1, h2, cs, h3, h4, h5⟩ := h
  refine ⟨?_, by simp; omega, _, h3.set_ _ _, by simpa using h4, ?_⟩
  · rw [h1, bDigits_big hb (by omega : ¬ v < b), hd]; simp
  · intro j hj
    rw [Array.getElem?_setIfInBounds]
    cases j with
    | zero => simp; omega
    | succ j =>
      rw [if_neg (by omega)]
      have := h5 j (by simpa using hj)
      rw [← show k + j = k - 1 + (j + 1) by omega]
      simpa using this

/-- The digits that stand in the block, whole; a sign ahead, perhaps. -/
def Whole (w : World) (g k : Nat) (L : List UInt8) : Prop := k + L.length = 65 ∧ ∃ cs : Array Value, Blk w g 90 cs ∧ cs.size = 65 ∧ ∀ j, (h : j < L.length) → cs[k + j]? = some (.int .u8 (L[j]).toNat)
theorem Whole.put {w : World} {g k : Nat} {L : List UInt8} (h : Whole w g k L) (hk : 1 ≤ k) (d : UInt8) : Whole (w.setCell ⟨g, k - 1, none⟩ (.int .u8 d.toNat)) g (k - 1) (d :: L) := by
  obtain ⟨h2, cs, h3, h4, h5⟩ := h
  refine ⟨by simp; omega, _, h3.set_ _ _, by simpa using h4, ?_⟩
  intro j hj
  rw [Array.getElem?_setIfInBounds]
  cases j with
  | zero => simp; omega
  | succ j =>
    rw [if_neg (by omega)]
    have := h5 j (by simpa using hj)
    rw [← show k + j = k - 1 + (j + 1) by omega]
    simpa using this
theorem Digs.whole {w : World} {g b u0 v k : Nat} {L : List UInt8} (h : Digs w g b u0 v k L) : Whole w g k L := ⟨h.2.1, h.2.2⟩
theorem Whole.cell {w : World} {g k : Nat} {L : List UInt8} (h : Whole w g k L) (i : Nat) (hi : i < 65) : (∃ x, w.cell? ⟨g, i, none⟩ = some x) ∧ w.frozen? ⟨g, i, none⟩ = false := by
  obtain ⟨_, cs, h3, h4, _⟩ := h
  refine ⟨⟨cs[i]'(by omega), ?_⟩, h3.frozen i⟩
  rw [h3.cell]
  exact Array.getElem?_eq_getElem (by omega)
/-- The bytes as a string. -/
theorem Whole.str {w : World} {g k : Nat} {L : List UInt8} (h : Whole w g k L) (n c : Nat) (hn : n = L.length) : (convert 67 9 (.slice (some ⟨g, k, none⟩) n c)).run Tryd.prog w = .ok (.string (mkS L)) w := by
  subst hn
  obtain ⟨h2, cs, h3, h4, h5⟩ := h
  refine run_convert_bytes_back (P := Tryd.prog) w _ _ 5 ⟨g, k, none⟩ c L (by kernel_rfl) (by kernel_rfl) (by kernel_rfl) ?_
  intro j hj
  rw [Lib.add_plain, h3.cell]
  exact h5 j hj
end Go.Proofs.YtpahemohpaaeoaaDoor
