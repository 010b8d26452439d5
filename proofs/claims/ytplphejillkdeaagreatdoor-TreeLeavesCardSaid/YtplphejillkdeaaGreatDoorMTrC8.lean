/- slices.Index and slices.Contains over strings. -/
import Derived.Test.YtplphejillkdeaaGreatDoorMTrChk7
import Derived.Test.YtplphejillkdeaaGreatDoorMTrChk6
namespace Go.Proofs.YtplphejillkdeaaGreatDoor
open Go.RowKit Go.Instr
set_option linter.unusedVariables false

set_option maxHeartbeats 1600000 in
theorem indexS_any (s : ByteArray) (l : List ByteArray) (a : Option Addr) (c N : Nat) (w : World) (hs : Slc a l.length c) (hl : PsAt w N a l) (hN : N ≤ w.heap.size) :
    Calls Tryz.prog 131
      #[.slice a l.length c, .string s] w fun e w' => e = .returned (.int .i64 (idxF (fun x => s.toList == x.toList) l)) ∧ Below w.heap.size w w' := by
  obtain ⟨hn1, hn2, -⟩ := hs
  have hn : (l.length : Int) ≤ 9223372036854775807 := by omega
  have HL := Lib.hid hl
  obtain ⟨R, hR⟩ : ∃ R, idxF (fun x => s.toList == x.toList) l = R := ⟨_, rfl⟩
  rw [hR]
  have HR := Lib.hid hR
  clear hl hR
  go_enter Tryz.func131, Tryz.ntmps131
  go_wp2_with fail
  go_loopw [8] (fun i wr => ∃ k : Nat, k ≤ l.length ∧ i = .int .i64 k ∧ Hid (Below w.heap.size w wr) ∧ Hid (∀ i (hi : i < l.length), i < k → (s.toList == l[i].toList) = false)) (fun i _ => l.length - (intOf i).toNat)
  case atStart => exact ⟨0, Nat.zero_le _, rfl, Below.refl _ _, fun i _ h => by omega⟩
  case round =>
    obtain ⟨k, hk, rfl, HE, HP⟩ := hrel
    by_cases hlt : k < l.length
    · rcases HL.out with h0 | ⟨b, o, rfl, hb, hc⟩
      · omega
      have hck := p1_still (still_of HE.out hN) _ _ _ hb (hc k hlt)
      obtain ⟨x, hx⟩ : ∃ x, l[k] = x := ⟨_, rfl⟩
      have HX := Lib.hid hx
      rw [hx, Nat.mul_one] at hck
      have c0 : wr.cell? ⟨b, o + k, none⟩ = some (.string x) := hck
      clear hx hck
      cases hq : (s.toList == x.toList)
      · have HQ := Lib.hid hq
        go_wp2_with fail
        refine ⟨⟨k + 1, by omega, by go_num, ?_, ?_⟩, by simp [intOf]; omega⟩
        · show Below _ _ _; have h0 := HE.out; have hs0 := h0.size; (repeat' (first | (with_reducible exact Below.refl _ _) | (with_reducible assumption) | (with_reducible refine Below.alloc ?_ ?_ _) | (with_reducible refine below_drewN ?_ _) | (with_reducible refine Below.drew ?_) | (with_reducible refine Below.setCell ?_ ?_ _) | (with_reducible refine below_via (by assumption) ?_ ?_) | (with_reducible refine below_via (later_below _) ?_ ?_) | (with_reducible exact Nat.le_refl _) | omega | (simp; omega) | (simp; done)))
        · intro i hi hik
          by_cases h : i = k
          · subst h; rw [HX.out]; exact HQ.out
          · exact HP.out i hi (by omega)
      · have HQ := Lib.hid hq
        go_wp2_with fail
        go_returns
        have e : R = (k : Int) := by rw [← HR.out]; exact idxF_at (fun x => s.toList == x.toList) l k hlt (fun i hi => HP.out i (by omega) hi) (by rw [HX.out]; exact HQ.out)
        rw [e]
        refine ⟨rfl, ?_⟩
        have h0 := HE.out
        have hs0 := h0.size
        (repeat' (first | (with_reducible exact Below.refl _ _) | (with_reducible assumption) | (with_reducible refine Below.alloc ?_ ?_ _) | (with_reducible refine below_drewN ?_ _) | (with_reducible refine Below.drew ?_) | (with_reducible refine Below.setCell ?_ ?_ _) | (with_reducible refine below_via (by assumption) ?_ ?_) | (with_reducible refine below_via (later_below _) ?_ ?_) | (with_reducible exact Nat.le_refl _) | omega | (simp; omega) | (simp; done)))
    · obtain rfl : k = l.length := by omega
      go_wp2_with fail
      go_returns
      have e : R = -1 := by rw [← HR.out]; exact idxF_none (fun x => s.toList == x.toList) l (fun i hi => HP.out i hi hi)
      rw [e]
      exact ⟨rfl, HE.out⟩
theorem containsS_any (s : ByteArray) (l : List ByteArray) (a : Option Addr) (c N : Nat) (w : World) (hs : Slc a l.length c) (hl : PsAt w N a l) (hN : N ≤ w.heap.size) :
    Calls Tryz.prog 121
      #[.slice a l.length c, .string s] w fun e w' => e = .returned (.bool (l.any fun x => s.toList == x.toList)) ∧ Below w.heap.size w w' := by
  have HI := Lib.hid (indexS_any s l a c N w hs hl hN)
  obtain ⟨R, hR⟩ : ∃ R, idxF (fun x => s.toList == x.toList) l = R := ⟨_, rfl⟩
  have hA := idxF_any (fun x => s.toList == x.toList) l
  rw [hR] at HI hA
  obtain ⟨A, hA2⟩ : ∃ A, (l.any fun x => s.toList == x.toList) = A := ⟨_, rfl⟩
  rw [hA2] at hA ⊢
  clear hl hs hR hA2
  go_enter Tryz.func121, Tryz.ntmps121
  go_wp2_with (go_at_call 131; (with_reducible refine HI.out.mono ?_); rintro e w1 ⟨rfl, hb1⟩)
  go_returns
  exact ⟨by simp [← hA], hb1⟩
end Go.Proofs.YtplphejillkdeaaGreatDoor

/- The names that a function may have: title.fits. -/
namespace Go.Proofs.YtplphejillkdeaaGreatDoor
open Go.RowKit Go.Instr
set_option linter.unusedVariables false

/-- The names that a function may have, and where they lie. -/
structure TT where
  a : Option Addr
  c : Nat
  names : List ByteArray
  m : ByteArray
abbrev TT.v (t : TT) : Value := .agg #[.slice t.a t.names.length t.c, .string t.m]
def TtOk (w : World) (N : Nat) (t : TT) : Prop := Slc t.a t.names.length t.c ∧ PsAt w N t.a t.names
def selfB (l : List ByteArray) : Bool := (l.head?.map fun x => x.toList == [115, 101, 108, 102]).getD false
def fitsB (t : TT) (f : TF) : Bool := (t.names.any fun x => f.name.toList == x.toList) || (!t.m.toList.isEmpty && (f.name.toList == t.m.toList && selfB f.params))
set_option maxHeartbeats 3200000 in
theorem fits_any (t : TT) (f : TF) (N : Nat) (w : World) (ht : TtOk w N t) (hf : InF w w.heap.size f) (hN : N ≤ w.heap.size) :
    Calls Tryz.prog 100 #[t.v, f.v] w fun e w' => e = .returned (.bool (fitsB t f)) ∧ Below w.heap.size w w' := by
  obtain ⟨Q, hQ⟩ : ∃ q, (t.names.any fun x => f.name.toList == x.toList) = q := ⟨_, rfl⟩
  have HC : Hid (∀ W, Below w.heap.size w W → Calls Tryz.prog 121 #[.slice t.a t.names.length t.c, .string f.name] W fun e w' => e = .returned (.bool Q) ∧ Below W.heap.size W w') := fun W hW => hQ ▸ containsS_any f.name t.names t.a t.c N W ht.1 (ht.2.still (p1_still (still_of hW hN)) (Nat.le_refl _)) (Nat.le_trans hN hW.size)
  unfold fitsB
  rw [hQ]
  have hF := ((inF_iff f).1 hf).1
  have hp1 := hF.pi.1
  have hp2 := hF.pi.2.1
  have hp : (f.params.length : Int) ≤ 9223372036854775807 := by omega
  clear hQ ht
  cases Q with
  | true =>
    clear hf hF
    go_enter Tryz.func100, Tryz.ntmps100
    go_wp2_with (go_at_call 121; (with_reducible refine (HC.out _ ?_).mono ?_); (focus ((repeat' (first | (with_reducible exact Below.refl _ _) | (with_reducible assumption) | (with_reducible refine Below.alloc ?_ ?_ _) | (with_reducible refine below_drewN ?_ _) | (with_reducible refine Below.drew ?_) | (with_reducible refine Below.setCell ?_ ?_ _) | (with_reducible refine below_via (by assumption) ?_ ?_) | (with_reducible refine below_via (later_below _) ?_ ?_) | (with_reducible exact Nat.le_refl _) | omega | (simp; omega) | (simp; done))))); rintro e w1 ⟨rfl, hb⟩; (refine mem hb ?_; intro N hN hz hc hf; (try simp at hN); subst hN))
    go_returns
    refine ⟨rfl, ?_⟩
    (repeat' (first | (with_reducible exact Below.refl _ _) | (with_reducible assumption) | (with_reducible refine Below.alloc ?_ ?_ _) | (with_reducible refine below_drewN ?_ _) | (with_reducible refine Below.drew ?_) | (with_reducible refine Below.setCell ?_ ?_ _) | (with_reducible refine below_via (by assumption) ?_ ?_) | (with_reducible refine below_via (later_below _) ?_ ?_) | (with_reducible exact Nat.le_refl _) | omega | (simp; omega) | (simp; done)))
  | false =>
    cases h1 : t.m.toList.isEmpty with
    | true =>
      clear hf hF
      go_enter Tryz.func100, Tryz.ntmps100
      go_wp2_with (go_at_call 121; (with_reducible refine (HC.out _ ?_).mono ?_); (focus ((repeat' (first | (with_reducible exact Below.refl _ _) | (with_reducible assumption) | (with_reducible refine Below.alloc ?_ ?_ _) | (with_reducible refine below_drewN ?_ _) | (with_reducible refine Below.drew ?_) | (with_reducible refine Below.setCell ?_ ?_ _) | (with_reducible refine below_via (by assumption) ?_ ?_) | (with_reducible refine below_via (later_below _) ?_ ?_) | (with_reducible exact Nat.le_refl _) | omega | (simp; omega) | (simp; done))))); rintro e w1 ⟨rfl, hb⟩; (refine mem hb ?_; intro N hN hz hc hf; (try simp at hN); subst hN))
      go_returns
      refine ⟨rfl, ?_⟩
      (repeat' (first | (with_reducible exact Below.refl _ _) | (with_reducible assumption) | (with_reducible refine Below.alloc ?_ ?_ _) | (with_reducible refine below_drewN ?_ _) | (with_reducible refine Below.drew ?_) | (with_reducible refine Below.setCell ?_ ?_ _) | (with_reducible refine below_via (by assumption) ?_ ?_) | (with_reducible refine below_via (later_below _) ?_ ?_) | (with_reducible exact Nat.le_refl _) | omega | (simp; omega) | (simp; done)))
    | false =>
      cases h2 : (f.name.toList == t.m.toList) with
      | false =>
        clear hf hF
        go_enter Tryz.func100, Tryz.ntmps100
        go_wp2_with (go_at_call 121; (with_reducible refine (HC.out _ ?_).mono ?_); (focus ((repeat' (first | (with_reducible exact Below.refl _ _) | (with_reducible assumption) | (with_reducible refine Below.alloc ?_ ?_ _) | (with_reducible refine below_drewN ?_ _) | (with_reducible refine Below.drew ?_) | (with_reducible refine Below.setCell ?_ ?_ _) | (with_reducible refine below_via (by assumption) ?_ ?_) | (with_reducible refine below_via (later_below _) ?_ ?_) | (with_reducible exact Nat.le_refl _) | omega | (simp; omega) | (simp; done))))); rintro e w1 ⟨rfl, hb⟩; (refine mem hb ?_; intro N hN hz hc hf; (try simp at hN); subst hN))
        go_returns
        refine ⟨rfl, ?_⟩
        (repeat' (first | (with_reducible exact Below.refl _ _) | (with_reducible assumption) | (with_reducible refine Below.alloc ?_ ?_ _) | (with_reducible refine below_drewN ?_ _) | (with_reducible refine Below.drew ?_) | (with_reducible refine Below.setCell ?_ ?_ _) | (with_reducible refine below_via (by assumption) ?_ ?_) | (with_reducible refine below_via (later_below _) ?_ ?_) | (with_reducible exact Nat.le_refl _) | omega | (simp; omega) | (simp; done)))
      | true =>
        rcases hF.pAt with h0 | ⟨b, o, hpA, hb0, hc⟩
        · have hs : selfB f.params = false := by rw [List.eq_nil_of_length_eq_zero h0]; rfl
          rw [hs]
          clear hf hF hs
          go_enter Tryz.func100, Tryz.ntmps100
          go_wp2_with (go_at_call 121; (with_reducible refine (HC.out _ ?_).mono ?_); (focus ((repeat' (first | (with_reducible exact Below.refl _ _) | (with_reducible assumption) | (with_reducible refine Below.alloc ?_ ?_ _) | (with_reducible refine below_drewN ?_ _) | (with_reducible refine Below.drew ?_) | (with_reducible refine Below.setCell ?_ ?_ _) | (with_reducible refine below_via (by assumption) ?_ ?_) | (with_reducible refine below_via (later_below _) ?_ ?_) | (with_reducible exact Nat.le_refl _) | omega | (simp; omega) | (simp; done))))); rintro e w1 ⟨rfl, hb⟩; (refine mem hb ?_; intro N hN hz hc hf; (try simp at hN); subst hN))
          go_returns
          refine ⟨rfl, ?_⟩
          (repeat' (first | (with_reducible exact Below.refl _ _) | (with_reducible assumption) | (with_reducible refine Below.alloc ?_ ?_ _) | (with_reducible refine below_drewN ?_ _) | (with_reducible refine Below.drew ?_) | (with_reducible refine Below.setCell ?_ ?_ _) | (with_reducible refine below_via (by assumption) ?_ ?_) | (with_reducible refine below_via (later_below _) ?_ ?_) | (with_reducible exact Nat.le_refl _) | omega | (simp; omega) | (simp; done)))
        · by_cases h0 : 0 < f.params.length
          · have hc0 := hc 0 h0
            obtain ⟨x, hx⟩ : ∃ x, f.params[0] = x := ⟨_, rfl⟩
            have hs : selfB f.params = (x.toList == [115, 101, 108, 102]) := by
              rw [← hx]
              unfold selfB
              rw [List.head?_eq_getElem?, List.getElem?_eq_getElem h0]
              rfl
            rw [hs]
            rw [hx, Nat.zero_mul, Nat.add_zero] at hc0
            have c0 : w.cell? ⟨b, o, none⟩ = some (.string x) := hc0
            clear hf hF hs hx hc hc0
            go_enter Tryz.func100, Tryz.ntmps100
            go_wp2_with (go_at_call 121; (with_reducible refine (HC.out _ ?_).mono ?_); (focus ((repeat' (first | (with_reducible exact Below.refl _ _) | (with_reducible assumption) | (with_reducible refine Below.alloc ?_ ?_ _) | (with_reducible refine below_drewN ?_ _) | (with_reducible refine Below.drew ?_) | (with_reducible refine Below.setCell ?_ ?_ _) | (with_reducible refine below_via (by assumption) ?_ ?_) | (with_reducible refine below_via (later_below _) ?_ ?_) | (with_reducible exact Nat.le_refl _) | omega | (simp; omega) | (simp; done))))); rintro e w1 ⟨rfl, hb⟩; (refine mem hb ?_; intro N hN hz hc hf; (try simp at hN); subst hN))
            go_returns
            refine ⟨rfl, ?_⟩
            (repeat' (first | (with_reducible exact Below.refl _ _) | (with_reducible assumption) | (with_reducible refine Below.alloc ?_ ?_ _) | (with_reducible refine below_drewN ?_ _) | (with_reducible refine Below.drew ?_) | (with_reducible refine Below.setCell ?_ ?_ _) | (with_reducible refine below_via (by assumption) ?_ ?_) | (with_reducible refine below_via (later_below _) ?_ ?_) | (with_reducible exact Nat.le_refl _) | omega | (simp; omega) | (simp; done)))
          · have h00 : f.params.length = 0 := by omega
            have hs : selfB f.params = false := by rw [List.eq_nil_of_length_eq_zero h00]; rfl
            rw [hs]
            clear hf hF hs hc hb0
            go_enter Tryz.func100, Tryz.ntmps100
            go_wp2_with (go_at_call 121; (with_reducible refine (HC.out _ ?_).mono ?_); (focus ((repeat' (first | (with_reducible exact Below.refl _ _) | (with_reducible assumption) | (with_reducible refine Below.alloc ?_ ?_ _) | (with_reducible refine below_drewN ?_ _) | (with_reducible refine Below.drew ?_) | (with_reducible refine Below.setCell ?_ ?_ _) | (with_reducible refine below_via (by assumption) ?_ ?_) | (with_reducible refine below_via (later_below _) ?_ ?_) | (with_reducible exact Nat.le_refl _) | omega | (simp; omega) | (simp; done))))); rintro e w1 ⟨rfl, hb⟩; (refine mem hb ?_; intro N hN hz hc hf; (try simp at hN); subst hN))
            go_returns
            refine ⟨rfl, ?_⟩
            (repeat' (first | (with_reducible exact Below.refl _ _) | (with_reducible assumption) | (with_reducible refine Below.alloc ?_ ?_ _) | (with_reducible refine below_drewN ?_ _) | (with_reducible refine Below.drew ?_) | (with_reducible refine Below.setCell ?_ ?_ _) | (with_reducible refine below_via (by assumption) ?_ ?_) | (with_reducible refine below_via (later_below _) ?_ ?_) | (with_reducible exact Nat.le_refl _) | omega | (simp; omega) | (simp; done)))
end Go.Proofs.YtplphejillkdeaaGreatDoor
