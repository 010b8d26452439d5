/- The contract of the method number of a numeral: numerals without a point. -/
import Derived.Test.YtpahemohpaaeoaaDoorNumW5
import Derived.Test.YtpahemohpaaeoaaDoorNumPlain2
import Derived.Test.YtpahemohpaaeoaaDoorRatW4
namespace Go.Proofs.YtpahemohpaaeoaaDoor
open Go.RowKit
set_option linter.unusedVariables false

theorem extract_list (s : ByteArray) (a b : Nat) : (s.extract a b).data.toList = sliceL s.data.toList a b := by
  unfold sliceL
  simp [ByteArray.data_extract, Array.toList_extract, List.extract]

def tripV (t : Int × Int × Int) : Value := .tuple #[.agg #[.int .i64 t.1, .int .i64 t.2.1], .int .i64 t.2.2]

theorem numL_bd (b : Nat) (hb : 1 ≤ b) : ∀ (l : List UInt8) (n m : Nat), (∀ c ∈ l, dvN c.toNat < b) → b ≤ 16 → n ≤ 4611686018427387904 → numL b l n = some m → m ≤ 4611686018427387904
  | [], n, m, _, _, hn, h => by simp only [numL, Option.some.injEq] at h; omega
  | c :: l, n, m, hd, hb16, hn, h => by
    rw [numL] at h
    split at h
    · cases h
    · rename_i hle
      refine numL_bd b hb l _ m (fun c hc => hd c (List.mem_cons_of_mem _ hc)) hb16 ?_ h
      have := hd c (List.mem_cons_self)
      have h2 : n * b ≤ 4611686018427387904 - dvN c.toNat := (Nat.le_div_iff_mul_le (by omega)).1 (by omega)
      omega

theorem makeT_cases {n u : Int} (h1 : 0 ≤ n) (h2 : n ≤ 4611686018427387904) (h3 : 1 ≤ u) (h4 : u ≤ 4611686018427387904) : (makeT n u).2.2 = 0 ∨ makeT n u = (0, 0, 6) := by
  unfold makeT
  rw [if_neg (by omega), if_pos (by omega)]
  unfold redT rP rQ rE
  cases redOk n u
  · right; rfl
  · left; rfl

/-- The contract of integer at a base that is written. -/
theorem integer_some (s : ByteArray) (b n : Nat) (k : Int) (hk : k = b) (hs : s.size ≤ 9223372036854775807) (hb2 : 2 ≤ b) (hb : b ≤ 16) (hd : ∀ c ∈ s.data.toList, dvN c.toNat < b) (hn : numL b s.data.toList 0 = some n) (w : World) :
    Calls Tryd.prog 65 #[.string s, .int .i64 k] w fun e w' => e = .returned (.tuple #[.int .i64 n, .bool true]) ∧ w = w' := by
  subst hk
  have := integer_any s b hs hb2 hb hd w
  rw [hn] at this
  exact this
theorem integer_none (s : ByteArray) (b : Nat) (k : Int) (hk : k = b) (hs : s.size ≤ 9223372036854775807) (hb2 : 2 ≤ b) (hb : b ≤ 16) (hd : ∀ c ∈ s.data.toList, dvN c.toNat < b) (hn : numL b s.data.toList 0 = none) (w : World) :
    Calls Tryd.prog 65 #[.string s, .int .i64 k] w fun e w' => e = .returned (.tuple #[.int .i64 0, .bool false]) ∧ w = w' := by
  subst hk
  have := integer_any s b hs hb2 hb hd w
  rw [hn] at this
  exact this
theorem make_good (p q P Q : Int) (h : makeT p q = (P, Q, 0)) (w : World) : Calls Tryd.prog 66 #[.int .i64 p, .int .i64 q] w fun e w' => e = .returned (.tuple #[.agg #[.int .i64 P, .int .i64 Q], .int .i64 0]) ∧ Below w.heap.size w w' := by
  have := make_any p q w; rw [h] at this; exact this
theorem make_bad (p q : Int) (h : makeT p q = (0, 0, 6)) (w : World) : Calls Tryd.prog 66 #[.int .i64 p, .int .i64 q] w fun e w' => e = .returned (.tuple #[.agg #[.int .i64 0, .int .i64 0], .int .i64 6]) ∧ Below w.heap.size w w' := by
  have := make_any p q w; rw [h] at this; exact this

theorem size_extract_le (s : ByteArray) (p q : Nat) (h2 : q ≤ s.size) (hs : s.size ≤ 9223372036854775807) : (s.extract p q).size ≤ 9223372036854775807 := by
  simp; omega
theorem trip_eq {t : Int × Int × Int} (h : t.2.2 = 0) : t = (t.1, t.2.1, 0) := by rw [← h]

set_option maxHeartbeats 1000000 in
theorem number_whole (hx : Bool) (b : Nat) (hb : (hx = true ∧ b = 16) ∨ (hx = false ∧ b = 10)) (s : ByteArray) (p q : Nat) (h1 : p ≤ q) (h2 : q ≤ s.size) (hs : s.size ≤ 9223372036854775807) (hd : ∀ c ∈ sliceL s.data.toList p q, dvN c.toNat < b) (w : World) :
    Calls Tryd.prog 59 #[.agg #[.bool hx, .int .i64 (-1), .int .i64 q, .int .i64 p], .string s] w fun e w' => e = .returned (tripV (ofNum (numL b (sliceL s.data.toList p q) 0) 1)) ∧ Below w.heap.size w w' := by
  rw [← extract_list] at hd ⊢
  have hse := size_extract_le s p q h2 hs
  have HD := Lib.hid hd
  clear hd
  obtain ⟨o, ho⟩ : ∃ o, numL b (s.extract p q).data.toList 0 = o := ⟨_, rfl⟩
  rw [ho]
  cases o with
  | none =>
    have HO := Lib.hid ho
    clear ho
    have hcon := fun (k : Int) (hk : k = b) (h1 : 2 ≤ b) (h2 : b ≤ 16) => integer_none (s.extract p q) b k hk hse h1 h2 HD.out HO.out
    have HC := Lib.hid hcon
    clear hcon HD HO hse
    rcases hb with ⟨rfl, rfl⟩ | ⟨rfl, rfl⟩
    all_goals
      go_enter Tryd.func59, Tryd.ntmps59
      go_wp2_with fail
      go_quiet (fail)
      go_wp2_with (first | (go_at_call 65; refine (HC.out _ rfl (by omega) (by omega) _).mono ?_; rintro e w1 ⟨rfl, rfl⟩))
      ((try simp only [Exit.inBlock, Exit.then]); refine bodyPost_ret (by first | (simp [results, Tryd.results59, go_sem, *]; done) | (simp [results, Tryd.results59, go_sem, *]; rfl) | (simp [results, Tryd.results59, go_sem, ↓IntWalk.iteOmega, *]; try rfl)) rfl ?_)
      refine ⟨rfl, ?_⟩
      (repeat' (first | (with_reducible exact Below.refl _ _) | (with_reducible assumption) | (with_reducible refine Below.alloc ?_ ?_ _) | (with_reducible refine below_drewN ?_ _) | (with_reducible refine Below.drew ?_) | (with_reducible refine Below.setCell ?_ ?_ _) | (with_reducible refine below_via (by assumption) ?_ ?_) | (with_reducible refine below_via (later_below _) ?_ ?_) | (with_reducible exact Nat.le_refl _) | omega | (simp; omega) | (simp; done)))
  | some n =>
    have hn := numL_bd b (by omega) _ 0 n HD.out (by omega) (by omega) ho
    have HO := Lib.hid ho
    clear ho
    have hcon := fun (k : Int) (hk : k = b) (h1 : 2 ≤ b) (h2 : b ≤ 16) => integer_some (s.extract p q) b n k hk hse h1 h2 HD.out HO.out
    have HC := Lib.hid hcon
    clear hcon HD HO hse
    have hmt := makeT_cases (n := n) (u := 1) (by omega) (by omega) (by omega) (by omega)
    rcases hmt with hmt | hmt
    · have hm2 := trip_eq hmt
      obtain ⟨P, hP⟩ : ∃ P, (makeT n 1).1 = P := ⟨_, rfl⟩
      obtain ⟨Q, hQ⟩ : ∃ Q, (makeT n 1).2.1 = Q := ⟨_, rfl⟩
      rw [hP, hQ] at hm2
      clear hmt hP hQ
      have hg : tripV (ofNum (some n) 1) = .tuple #[.agg #[.int .i64 P, .int .i64 Q], .int .i64 0] := by
        show tripV (makeT n 1) = _
        rw [hm2]; rfl
      rw [hg]
      have HM := Lib.hid (make_good n 1 P Q hm2)
      clear hm2 hg
      rcases hb with ⟨rfl, rfl⟩ | ⟨rfl, rfl⟩
      all_goals
        go_enter Tryd.func59, Tryd.ntmps59
        go_wp2_with fail
        go_quiet (fail)
        go_wp2_with (first | (go_at_call 65; refine (HC.out _ rfl (by omega) (by omega) _).mono ?_; rintro e w1 ⟨rfl, rfl⟩) | (go_at_call 66; refine (HM.out _).mono ?_; rintro e w1 ⟨rfl, hb⟩; (refine mem hb ?_; intro N hN hz hc hf; (try simp at hN); subst hN)))
        ((try simp only [Exit.inBlock, Exit.then]); refine bodyPost_ret (by first | (simp [results, Tryd.results59, go_sem, *]; done) | (simp [results, Tryd.results59, go_sem, *]; rfl) | (simp [results, Tryd.results59, go_sem, ↓IntWalk.iteOmega, *]; try rfl)) rfl ?_)
        refine ⟨rfl, ?_⟩
        (repeat' (first | (with_reducible exact Below.refl _ _) | (with_reducible assumption) | (with_reducible refine Below.alloc ?_ ?_ _) | (with_reducible refine below_drewN ?_ _) | (with_reducible refine Below.drew ?_) | (with_reducible refine Below.setCell ?_ ?_ _) | (with_reducible refine below_via (by assumption) ?_ ?_) | (with_reducible refine below_via (later_below _) ?_ ?_) | (with_reducible exact Nat.le_refl _) | omega | (simp; omega) | (simp; done)))
    · have hg : tripV (ofNum (some n) 1) = .tuple #[.agg #[.int .i64 0, .int .i64 0], .int .i64 6] := by
        show tripV (makeT n 1) = _
        rw [hmt]; rfl
      rw [hg]
      have HM := Lib.hid (make_bad n 1 hmt)
      clear hmt hg
      rcases hb with ⟨rfl, rfl⟩ | ⟨rfl, rfl⟩
      all_goals
        go_enter Tryd.func59, Tryd.ntmps59
        go_wp2_with fail
        go_quiet (fail)
        go_wp2_with (first | (go_at_call 65; refine (HC.out _ rfl (by omega) (by omega) _).mono ?_; rintro e w1 ⟨rfl, rfl⟩) | (go_at_call 66; refine (HM.out _).mono ?_; rintro e w1 ⟨rfl, hb⟩; (refine mem hb ?_; intro N hN hz hc hf; (try simp at hN); subst hN)))
        ((try simp only [Exit.inBlock, Exit.then]); refine bodyPost_ret (by first | (simp [results, Tryd.results59, go_sem, *]; done) | (simp [results, Tryd.results59, go_sem, *]; rfl) | (simp [results, Tryd.results59, go_sem, ↓IntWalk.iteOmega, *]; try rfl)) rfl ?_)
        refine ⟨rfl, ?_⟩
        (repeat' (first | (with_reducible exact Below.refl _ _) | (with_reducible assumption) | (with_reducible refine Below.alloc ?_ ?_ _) | (with_reducible refine below_drewN ?_ _) | (with_reducible refine Below.drew ?_) | (with_reducible refine Below.setCell ?_ ?_ _) | (with_reducible refine below_via (by assumption) ?_ ?_) | (with_reducible refine below_via (later_below _) ?_ ?_) | (with_reducible exact Nat.le_refl _) | omega | (simp; omega) | (simp; done)))
end Go.Proofs.YtpahemohpaaeoaaDoor
