/- The contract of the method number of a numeral: numerals without a point. -/
import Derived.Test.YtfclmnglckikbaaGreatDoorMNumW5
import Derived.Test.YtfclmnglckikbaaGreatDoorMPlainA
import Derived.Test.YtfclmnglckikbaaGreatDoorMRatW4
namespace Go.Proofs.YtfclmnglckikbaaGreatDoor
open Go.RowKit
set_option linter.unusedVariables false

theorem extract_list (s : ByteArray) (a b : Nat) : (s.extract a b).data.toList = sliceL s.data.toList a b := by
  unfold sliceL
  simp [ByteArray.data_extract, Array.toList_extract, List.extract]

def tripV (t : Int × Int × Int) : Value := .tuple #[.agg #[.int .i64 t.1, .int .i64 t.2.1], .int .i64 t.2.2]

theorem numL_bd (b : Nat) (hb : 1 ≤ b) : ∀ (l : List UInt8) (n m : Nat), (∀ c ∈ l, dvN c.toNat < b) → b ≤ 16 → n ≤ 4611686018427387904 → numL b l n = some m → m ≤ 4611686018427387904
  | [], n, m, _, _, hn, h => by simp only [numL, Option.some.injEq] at h; omega
  | c :: l, n, m, hd, hb16, hn, h => by
    rw [numL] at h
    split at h
    · cases h
    · rename_i hle
      refine numL_bd b hb l _ m (fun c hc => hd c (List.mem_cons_of_mem _ hc)) hb16 ?_ h
      have := hd c (List.mem_cons_self)
      have h2 : n * b ≤ 4611686018427387904 - dvN c.toNat := (Nat.le_div_iff_mul_le (by omega)).1 (by omega)
      omega

theorem makeT_cases {n u : Int} (h1 : 0 ≤ n) (h2 : n ≤ 4611686018427387904) (h3 : 1 ≤ u) (h4 : u ≤ 4611686018427387904) : (makeT n u).2.2 = 0 ∨ makeT n u = (0, 0, 6) := by
  unfold makeT
  rw [if_neg (by omega), if_pos (by omega)]
  unfold redT rP rQ rE
  cases redOk n u
  · right; rfl
  · left; rfl

/-- The contract of integer at a base that is written. -/
theorem integer_some (s : ByteArray) (b n : Nat) (k : Int) (hk : k = b) (hs : s.size ≤ 9223372036854775807) (hb2 : 2 ≤ b) (hb : b ≤ 16) (hd : ∀ c ∈ s.data.toList, dvN c.toNat < b) (hn : numL b s.data.toList 0 = some n) (w : World) :
    Calls Tryz.prog 132 #[.string s, .int .i64 k] w fun e w' => e = .returned (.tuple #[.int .i64 n, .bool true]) ∧ w = w' := by
  subst hk
  have := integer_any s b hs hb2 hb hd w
  rw [hn] at this
  exact this
theorem integer_none (s : ByteArray) (b : Nat) (k : Int) (hk : k = b) (hs : s.size ≤ 9223372036854775807) (hb2 : 2 ≤ b) (hb : b ≤ 16) (hd : ∀ c ∈ s.data.toList, dvN c.toNat < b) (hn : numL b s.data.toList 0 = none) (w : World) :
    Calls Tryz.prog 132 #[.string s, .int .i64 k] w fun e w' => e = .returned (.tuple #[.int .i64 0, .bool false]) ∧ w = w' := by
  subst hk
  have := integer_any s b hs hb2 hb hd w
  rw [hn] at this
  exact this
theorem make_good (p q P Q : Int) (h : makeT p q = (P, Q, 0)) (w : World) : Calls Tryz.prog 133 #[.int .i64 p, .int .i64 q] w fun e w' => e = .returned (.tuple #[.agg #[.int .i64 P, .int .i64 Q], .int .i64 0]) ∧ Below w.heap.size w w' := by
  have := make_any p q w; rw [h] at this; exact this
theorem make_bad (p q : Int) (h : makeT p q = (0, 0, 6)) (w : World) : Calls Tryz.prog 133 #[.int .i64 p, .int .i64 q] w fun e w' => e = .returned (.tuple #[.agg #[.int .i64 0, .int .i64 0], .int .i64 6]) ∧ Below w.heap.size w w' := by
  have := make_any p q w; rw [h] at this; exact this

theorem size_extract_le (s : ByteArray) (p q : Nat) (h2 : q ≤ s.size) (hs : s.size ≤ 9223372036854775807) : (s.extract p q).size ≤ 9223372036854775807 := by
  simp; omega
theorem trip_eq {t : Int × Int × Int} (h : t.2.2 = 0) : t = (t.1, t.2.1, 0) := by rw [← h]

set_option maxHeartbeats 1000000 in
theorem number_whole (hx : Bool) (b : Nat) (hb : (hx = true ∧ b = 16) ∨ (hx = false ∧ b = 10)) (s : ByteArray) (p q : Nat) (h1 : p ≤ q) (h2 : q ≤ s.size) (hs : s.size ≤ 9223372036854775807) (hd : ∀ c ∈ sliceL s.data.toList p q, dvN c.toNat < b) (w : World) :
    Calls Tryz.prog 119 #[.agg #[.bool hx, .int .i64 (-1), .int .i64 q, .int .i64 p], .string s] w fun e w' => e = .returned (tripV (ofNum (numL b (sliceL s.data.toList p q) 0) 1)) ∧ Below w.heap.size w w' := by
  rw [← extract_list] at hd ⊢
  have hse := size_extract_le s p q h2 hs
  have HD := Lib.hid hd
  clear hd
  obtain ⟨o, ho⟩ : ∃ o, numL b (s.extract p q).data.toList 0 = o := ⟨_, rfl⟩
  rw [ho]
  cases o with
  | none =>
    have HO := Lib.hid ho
    clear ho
    have hcon := fun (k : Int) (hk : k = b) (h1 : 2 ≤ b) (h2 : b ≤ 16) => integer_none (s.extract p q) b k hk hse h1 h2 HD.out HO.out
    have HC := Lib.hid hcon
    clear hcon HD HO hse
    rcases hb with ⟨rfl, rfl⟩ | ⟨rfl, rfl⟩
    all_goals
      go_enter Tryz.func119, Tryz.ntmps119
      go_wp2_with fail
      go_quiet (fail)
      go_wp2_with (first | (go_at_call 132; refine (HC.out _ rfl (by omega) (by omega) _).mono ?_; rintro e w1 ⟨rfl, rfl⟩))
      ((try simp only [Exit.inBlock, Exit.then]); refine bodyPost_ret (by first | (simp [results, Tryz.results119, go_sem, *]; done) | (simp [results, Tryz.results119, go_sem, *]; rfl) | (simp [results, Tryz.results119, go_sem, ↓IntWalk.iteOmega, *]; try rfl)) rfl ?_)
      refine ⟨rfl, ?_⟩
      (repeat' (first | (with_reducible exact Below.refl _ _) | (with_reducible assumption) | (with_reducible refine Below.alloc ?_ ?_ _) | (with_reducible refine below_drewN ?_ _) | (with_reducible refine Below.drew ?_) | (with_reducible refine Below.setCell ?_ ?_ _) | (with_reducible refine below_via (by assumption) ?_ ?_) | (with_reducible refine below_via (later_below _) ?_ ?_) | (with_reducible exact Nat.le_refl _) | omega | (simp; omega) | (simp; done)))
  | some n =>
    have hn := numL_bd b (by omega) _ 0 n HD.out (by omega) (by omega) ho
    have HO := Lib.hid ho
    clear ho
    have hcon := fun (k : Int) (hk : k = b) (h1 : 2 ≤ b) (h2 : b ≤ 16) => integer_some (s.extract p q) b n k hk hse h1 h2 HD.out HO.out
    have HC := Lib.hid hcon
    clear hcon HD HO hse
    have hmt := makeT_cases (n := n) (u := 1) (by omega) (by omega) (by omega) (by omega)
    rcases hmt with hmt | hmt
    · have hm2 := trip_eq hmt
      obtain ⟨P, hP⟩ : ∃ P, (makeT n 1).1 = P := ⟨_, rfl⟩
      obtain ⟨Q, hQ⟩ : ∃ Q, (makeT n 1).2.1 = Q := ⟨_, rfl⟩
      rw [hP, hQ] at hm2
      clear hmt hP hQ
      have hg : tripV (ofNum (some n) 1) = .tuple #[.agg #[.int .i64 P, .int .i64 Q], .int .i64 0] := by
        show tripV (makeT n 1) = _
        rw [hm2]; rfl
      rw [hg]
      have HM := Lib.hid (make_good n 1 P Q hm2)
      clear hm2 hg
      rcases hb with ⟨rfl, rfl⟩ | ⟨rfl, rfl⟩
      all_goals
        go_enter Tryz.func119, Tryz.ntmps119
        go_wp2_with fail
        go_quiet (fail)
        go_wp2_with (first | (go_at_call 132; refine (HC.out _ rfl (by omega) (by omega) _).mono ?_; rintro e w1 ⟨rfl, rfl⟩) | (go_at_call 133; refine (HM.out _).mono ?_; rintro e w1 ⟨rfl, hb⟩; (refine mem hb ?_; intro N hN hz hc hf; (try simp at hN); subst hN)))
        ((try simp only [Exit.inBlock, Exit.then]); refine bodyPost_ret (by first | (simp [results, Tryz.results119, go_sem, *]; done) | (simp [results, Tryz.results119, go_sem, *]; rfl) | (simp [results, Tryz.results119, go_sem, ↓IntWalk.iteOmega, *]; try rfl)) rfl ?_)
        refine ⟨rfl, ?_⟩
        (repeat' (first | (with_reducible exact Below.refl _ _) | (with_reducible assumption) | (with_reducible refine Below.alloc ?_ ?_ _) | (with_reducible refine below_drewN ?_ _) | (with_reducible refine Below.drew ?_) | (with_reducible refine Below.setCell ?_ ?_ _) | (with_reducible refine below_via (by assumption) ?_ ?_) | (with_reducible refine below_via (later_below _) ?_ ?_) | (with_reducible exact Nat.le_refl _) | omega | (simp; omega) | (simp; done)))
    · have hg : tripV (ofNum (some n) 1) = .tuple #[.agg #[.int .i64 0, .int .i64 0], .int .i64 6] := by
        show tripV (makeT n 1) = _
        rw [hmt]; rfl
      rw [hg]
      have HM := Lib.hid (make_bad n 1 hmt)
      clear hmt hg
      rcases hb with ⟨rfl, rfl⟩ | ⟨rfl, rfl⟩
      all_goals
        go_enter Tryz.func119, Tryz.ntmps119
        go_wp2_with fail
        go_quiet (fail)
        go_wp2_with (first | (go_at_call 132; refine (HC.out _ rfl (by omega) (by omega) _).mono ?_; rintro e w1 ⟨rfl, rfl⟩) | (go_at_call 133; refine (HM.out _).mono ?_; rintro e w1 ⟨rfl, hb⟩; (refine mem hb ?_; intro N hN hz hc hf; (try simp at hN); subst hN)))
        ((try simp only [Exit.inBlock, Exit.then]); refine bodyPost_ret (by first | (simp [results, Tryz.results119, go_sem, *]; done) | (simp [results, Tryz.results119, go_sem, *]; rfl) | (simp [results, Tryz.results119, go_sem, ↓IntWalk.iteOmega, *]; try rfl)) rfl ?_)
        refine ⟨rfl, ?_⟩
        (repeat' (first | (with_reducible exact Below.refl _ _) | (with_reducible assumption) | (with_reducible refine Below.alloc ?_ ?_ _) | (with_reducible refine below_drewN ?_ _) | (with_reducible refine Below.drew ?_) | (with_reducible refine Below.setCell ?_ ?_ _) | (with_reducible refine below_via (by assumption) ?_ ?_) | (with_reducible refine below_via (later_below _) ?_ ?_) | (with_reducible exact Nat.le_refl _) | omega | (simp; omega) | (simp; done)))
end Go.Proofs.YtfclmnglckikbaaGreatDoor

/- The contract of the method number of a numeral: numerals with a point. -/
namespace Go.Proofs.YtfclmnglckikbaaGreatDoor
open Go.RowKit
set_option linter.unusedVariables false

theorem ten_pow (k : Nat) (h : k ≤ 9) : 1 ≤ (10 : Int) ^ k ∧ (10 : Int) ^ k ≤ 1000000000 := by
  obtain rfl | rfl | rfl | rfl | rfl | rfl | rfl | rfl | rfl | rfl : k = 0 ∨ k = 1 ∨ k = 2 ∨ k = 3 ∨ k = 4 ∨ k = 5 ∨ k = 6 ∨ k = 7 ∨ k = 8 ∨ k = 9 := by omega
  all_goals decide

set_option maxHeartbeats 1000000 in
theorem number_long (s : ByteArray) (p d q : Nat) (h0 : p ≤ d) (h1 : d + 1 ≤ q) (h2 : q ≤ s.size) (hs : s.size ≤ 9223372036854775807) (h9 : 9 < q - (d + 1)) (w : World) :
    Calls Tryz.prog 119 #[.agg #[.bool false, .int .i64 d, .int .i64 q, .int .i64 p], .string s] w fun e w' => e = .returned (tripV (0, 0, 6)) ∧ Below w.heap.size w w' := by
  go_enter Tryz.func119, Tryz.ntmps119
  go_wp2_with fail
  go_quiet (fail)
  go_wp2_with fail
  ((try simp only [Exit.inBlock, Exit.then]); refine bodyPost_ret (by first | (simp [results, Tryz.results119, go_sem, *]; done) | (simp [results, Tryz.results119, go_sem, *]; rfl) | (simp [results, Tryz.results119, go_sem, ↓IntWalk.iteOmega, *]; try rfl)) rfl ?_)
  refine ⟨rfl, ?_⟩
  (repeat' (first | (with_reducible exact Below.refl _ _) | (with_reducible assumption) | (with_reducible refine Below.alloc ?_ ?_ _) | (with_reducible refine below_drewN ?_ _) | (with_reducible refine Below.drew ?_) | (with_reducible refine Below.setCell ?_ ?_ _) | (with_reducible refine below_via (by assumption) ?_ ?_) | (with_reducible refine below_via (later_below _) ?_ ?_) | (with_reducible exact Nat.le_refl _) | omega | (simp; omega) | (simp; done)))

/-- What stands behind the loop: the digits' number, and what Make gives for it. -/
def Outcome (x : ByteArray) (u P Q E : Int) : Prop :=
  ((∀ w, Calls Tryz.prog 132 #[.string x, .int .i64 10] w fun e w' => e = .returned (.tuple #[.int .i64 0, .bool false]) ∧ w = w') ∧ P = 0 ∧ Q = 0 ∧ E = 6) ∨
  (∃ n : Int, (∀ w, Calls Tryz.prog 132 #[.string x, .int .i64 10] w fun e w' => e = .returned (.tuple #[.int .i64 n, .bool true]) ∧ w = w') ∧
    (∀ w, Calls Tryz.prog 133 #[.int .i64 n, .int .i64 u] w fun e w' => e = .returned (.tuple #[.agg #[.int .i64 P, .int .i64 Q], .int .i64 E]) ∧ Below w.heap.size w w') ∧ (E = 0 ∨ P = 0 ∧ Q = 0 ∧ E = 6))

set_option maxHeartbeats 2000000 in
theorem number_short (s : ByteArray) (p d q : Nat) (P Q E : Int) (h0 : p ≤ d) (h1 : d + 1 ≤ q) (h2 : q ≤ s.size) (hs : s.size ≤ 9223372036854775807) (h9 : q - (d + 1) ≤ 9) (h : Outcome (s.extract p d ++ s.extract (d + 1) q) (10 ^ (q - (d + 1))) P Q E) (w : World) :
    Calls Tryz.prog 119 #[.agg #[.bool false, .int .i64 d, .int .i64 q, .int .i64 p], .string s] w fun e w' => e = .returned (.tuple #[.agg #[.int .i64 P, .int .i64 Q], .int .i64 E]) ∧ Below w.heap.size w w' := by
  obtain ⟨m, hm⟩ : ∃ m, q = d + 1 + m := ⟨q - (d + 1), by omega⟩
  subst hm
  have hmm : d + 1 + m - (d + 1) = m := by omega
  rw [hmm] at h h9
  have HH := Lib.hid h
  clear h hmm
  have hml : ((d + 1 + m - (d + 1) : Nat) : Int) = m := by omega
  go_enter Tryz.func119, Tryz.ntmps119
  go_wp2_with fail
  go_quiet (fail)
  go_wp2_with fail
  go_loop [8, 46] (fun v i => ∃ (k : Nat) (u : Int), k ≤ m ∧ i = .int .i64 k ∧ v = .int .i64 u ∧ 1 ≤ u ∧ u ≤ 1000000000 ∧ u = 10 ^ k) (fun _ i => m - (intOf i).toNat)
  case atStart => exact ⟨0, 1, Nat.zero_le _, rfl, rfl, by omega, by omega, rfl⟩
  case round =>
    obtain ⟨k, u, hk, rfl, rfl, hu1, hu2, hu⟩ := hrel
    by_cases hlt : k < m
    · have hu3 : u * 10 = 10 ^ (k + 1) := by rw [Int.pow_succ, ← hu]
      have hu4 := ten_pow (k + 1) (by omega)
      rw [← hu3] at hu4
      have HU := Lib.hid hu3
      obtain ⟨hu4, hu5⟩ := hu4
      clear hu hu3
      go_wp2_with fail
      exact ⟨⟨k + 1, u * 10, by omega, by go_num, rfl, hu4, hu5, HU.out⟩, by simp [intOf]; omega⟩
    · obtain rfl : k = m := by omega
      have H2 := HH.out
      rw [← hu] at H2
      clear hu HH hlt hk
      unfold Outcome at H2
      rcases H2 with ⟨hc1, rfl, rfl, rfl⟩ | ⟨n, hc1, hc2, hE⟩
      · have HC := Lib.hid hc1
        clear hc1
        go_wp2_with (first | (go_at_call 132; refine (HC.out _).mono ?_; rintro e w1 ⟨rfl, rfl⟩))
        ((try simp only [Exit.inBlock, Exit.then]); refine bodyPost_ret (by first | (simp [results, Tryz.results119, go_sem, *]; done) | (simp [results, Tryz.results119, go_sem, *]; rfl) | (simp [results, Tryz.results119, go_sem, ↓IntWalk.iteOmega, *]; try rfl)) rfl ?_)
        refine ⟨rfl, ?_⟩
        (repeat' (first | (with_reducible exact Below.refl _ _) | (with_reducible assumption) | (with_reducible refine Below.alloc ?_ ?_ _) | (with_reducible refine below_drewN ?_ _) | (with_reducible refine Below.drew ?_) | (with_reducible refine Below.setCell ?_ ?_ _) | (with_reducible refine below_via (by assumption) ?_ ?_) | (with_reducible refine below_via (later_below _) ?_ ?_) | (with_reducible exact Nat.le_refl _) | omega | (simp; omega) | (simp; done)))
      · have HC := Lib.hid hc1
        have HM := Lib.hid hc2
        clear hc1 hc2
        rcases hE with rfl | ⟨rfl, rfl, rfl⟩
        all_goals
          go_wp2_with (first | (go_at_call 132; refine (HC.out _).mono ?_; rintro e w1 ⟨rfl, rfl⟩) | (go_at_call 133; refine (HM.out _).mono ?_; rintro e w1 ⟨rfl, hb⟩; (refine mem hb ?_; intro N hN hz hc hf; (try simp at hN); subst hN)))
          ((try simp only [Exit.inBlock, Exit.then]); refine bodyPost_ret (by first | (simp [results, Tryz.results119, go_sem, *]; done) | (simp [results, Tryz.results119, go_sem, *]; rfl) | (simp [results, Tryz.results119, go_sem, ↓IntWalk.iteOmega, *]; try rfl)) rfl ?_)
          refine ⟨rfl, ?_⟩
          (repeat' (first | (with_reducible exact Below.refl _ _) | (with_reducible assumption) | (with_reducible refine Below.alloc ?_ ?_ _) | (with_reducible refine below_drewN ?_ _) | (with_reducible refine Below.drew ?_) | (with_reducible refine Below.setCell ?_ ?_ _) | (with_reducible refine below_via (by assumption) ?_ ?_) | (with_reducible refine below_via (later_below _) ?_ ?_) | (with_reducible exact Nat.le_refl _) | omega | (simp; omega) | (simp; done)))
end Go.Proofs.YtfclmnglckikbaaGreatDoor

/- The contract of the method number of a numeral that 'find' found. -/
namespace Go.Proofs.YtfclmnglckikbaaGreatDoor
open Go.RowKit
set_option linter.unusedVariables false

theorem cat_list (a b : ByteArray) : (a ++ b).data.toList = a.data.toList ++ b.data.toList := by simp

/-- What stands behind the loop, for a text of digits. -/
theorem outcome_of (x : ByteArray) (k : Nat) (hk : k ≤ 9) (hs : x.size ≤ 9223372036854775807) (hd : ∀ c ∈ x.data.toList, dvN c.toNat < 10) :
    Outcome x (10 ^ k) (ofNum (numL 10 x.data.toList 0) (10 ^ k)).1 (ofNum (numL 10 x.data.toList 0) (10 ^ k)).2.1 (ofNum (numL 10 x.data.toList 0) (10 ^ k)).2.2 := by
  cases ho : numL 10 x.data.toList 0 with
  | none => exact .inl ⟨fun w => integer_none x 10 10 rfl hs (by omega) (by omega) hd ho w, rfl, rfl, rfl⟩
  | some n =>
    have hn := numL_bd 10 (by omega) _ 0 n hd (by omega) (by omega) ho
    have ht := ten_pow k hk
    refine .inr ⟨n, fun w => integer_some x 10 n 10 rfl hs (by omega) (by omega) hd ho w, fun w => ?_, ?_⟩
    · have := make_any n (10 ^ k) w
      have hc : ((10 ^ k : Nat) : Int) = 10 ^ k := by push_cast; rfl
      show Calls Tryz.prog _ _ w fun e w' => e = .returned (.tuple #[.agg #[.int .i64 (makeT n ((10 ^ k : Nat) : Int)).1, .int .i64 (makeT n ((10 ^ k : Nat) : Int)).2.1], .int .i64 (makeT n ((10 ^ k : Nat) : Int)).2.2]) ∧ _
      rw [hc]
      exact this
    · have hc : ((10 ^ k : Nat) : Int) = 10 ^ k := by push_cast; rfl
      have hm := makeT_cases (n := (n : Int)) (u := 10 ^ k) (by omega) (by omega) (by omega) (by omega)
      show (makeT n ((10 ^ k : Nat) : Int)).2.2 = 0 ∨ (makeT n ((10 ^ k : Nat) : Int)).1 = 0 ∧ (makeT n ((10 ^ k : Nat) : Int)).2.1 = 0 ∧ (makeT n ((10 ^ k : Nat) : Int)).2.2 = 6
      rw [hc]
      rcases hm with hm | hm
      · exact .inl hm
      · rw [hm]; exact .inr ⟨rfl, rfl, rfl⟩

theorem number_any (s : ByteArray) (i : Nat) (f : Find) (hs : s.size ≤ 9223372036854775807) (hk : Kind s.data.toList i f) (w : World) :
    Calls Tryz.prog 119 #[.agg #[.bool f.hex, .int .i64 f.point, .int .i64 f.end_, .int .i64 f.from_], .string s] w fun e w' => e = .returned (tripV (numT s.data.toList f)) ∧ Below w.heap.size w w' := by
  have hl : s.data.toList.length = s.size := by simp
  cases hk with
  | hex q h1 h2 h3 h4 h5 =>
    rw [hl] at h2
    exact number_whole true 16 (.inl ⟨rfl, rfl⟩) s (i + 2) q (by omega) h2 hs h5 w
  | whole q h1 h2 h3 =>
    rw [hl] at h2
    exact number_whole false 10 (.inr ⟨rfl, rfl⟩) s i q (by omega) h2 hs h3 w
  | point d q h1 h2 h3 h4 h5 h6 =>
    rw [hl] at h3
    by_cases h9 : 9 < q - (d + 1)
    · have ht : numT s.data.toList ⟨false, d, i, q⟩ = (0, 0, 6) := by
        unfold numT
        rw [if_neg (by simp), if_neg (show ¬ (d : Int) < 0 by omega), if_pos (show 9 < q - ((d : Int).toNat + 1) by omega)]
      rw [ht]
      exact number_long s i d q (by omega) (by omega) h3 hs h9 w
    · have ht : numT s.data.toList ⟨false, d, i, q⟩ = ofNum (numL 10 (s.extract i d ++ s.extract (d + 1) q).data.toList 0) (10 ^ (q - (d + 1))) := by
        unfold numT
        rw [if_neg (by simp), if_neg (show ¬ (d : Int) < 0 by omega), if_neg (show ¬ 9 < q - ((d : Int).toNat + 1) by omega)]
        rw [cat_list, extract_list, extract_list]
        rfl
      rw [ht]
      refine number_short s i d q _ _ _ (by omega) (by omega) h3 hs (by omega) (outcome_of _ _ (by omega) ?_ ?_) w
      · simp; omega
      · rw [cat_list, extract_list, extract_list]
        intro c hc
        rcases List.mem_append.1 hc with hc | hc
        · exact h5 c hc
        · exact h6 c hc
end Go.Proofs.YtfclmnglckikbaaGreatDoor
