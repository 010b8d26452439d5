/- Package value's Text, Number, Str and Less, and the reference's: what each call returns. -/
import Derived.Test.YtpahemohpaaeoaaDoorValW3
namespace Go.Proofs.YtpahemohpaaeoaaDoor
open Go.RowKit Go.Instr
set_option linter.unusedVariables false

/-- The text of a value. -/
def textV (k p q : Int) (s : ByteArray) (r : Int) : ByteArray :=
  if k = 0 then ⟨#[110, 105, 108]⟩ else if k = 1 then (if r = 0 then ⟨#[102, 97, 108, 115, 101]⟩ else ⟨#[116, 114, 117, 101]⟩) else if k = 2 then mkS (textL p q) else if k = 3 then s
  else if k = 6 then ⟨#[98, 117, 105, 108, 116, 105, 110, 58, 32]⟩ ++ s else if k = 4 ∨ k = 5 ∨ k = 7 ∨ k = 8 then typeN k ++ ⟨#[58, 32]⟩ ++ mkS (Lib.itoa r) else ⟨#[]⟩
theorem textV_out {k p q : Int} {s : ByteArray} {r : Int} (h : k < 0 ∨ 8 < k) : textV k p q s r = ⟨#[]⟩ := by
  unfold textV
  rw [if_neg (by omega), if_neg (by omega), if_neg (by omega), if_neg (by omega), if_neg (by omega), if_neg (by omega)]
theorem typeN_len (k : Int) : (typeN k).size ≤ 8 := by
  rcases kinds k with rfl | rfl | rfl | rfl | rfl | rfl | rfl | rfl | rfl | h
  case inr.inr.inr.inr.inr.inr.inr.inr.inr =>
    unfold typeN
    rw [if_neg (by omega), if_neg (by omega), if_neg (by omega), if_neg (by omega), if_neg (by omega), if_neg (by omega), if_neg (by omega), if_neg (by omega), if_neg (by omega)]
    decide
  all_goals decide

set_option maxHeartbeats 2000000 in
set_option maxRecDepth 100000 in
theorem text_v (k p q : Int) (s : ByteArray) (r : Int) (w : World) (hs : s.size ≤ 4106) (hp : -9223372036854775808 ≤ p) (hp' : p ≤ 9223372036854775807) (hr : -9223372036854775808 ≤ r) (hr' : r ≤ 9223372036854775807) (hT : Tabs w) :
    Calls Tryd.prog 17 #[vV k p q s r] w fun e w' => e = .returned (.string (textV k p q s r)) ∧ Below w.heap.size w w' := by
  have HX : Hid (∀ w', Below w.heap.size w w' → Calls Tryd.prog 29 #[.agg #[.int .i64 p, .int .i64 q]] w' fun e w'' => e = .returned (.string (mkS (textL p q))) ∧ Below w'.heap.size w' w'') := fun w' hb => text_any p q w' hp hp' (hT.later hb)
  have HI := Lib.hid (itoa_says hT r hr hr')
  have HY : Hid (∀ k w', Calls Tryd.prog 15 #[vV k p q s r] w' fun e w'' => e = .returned (.string (typeN k)) ∧ Below w'.heap.size w' w'') := fun k w' => type_any k p q s r w'
  have hlen := Lib.itoa_length_le r hr hr'
  have hty := typeN_len
  have hIs : (mkS (Lib.itoa r)).size ≤ 21 := by rw [mkS_size]; exact hlen
  obtain ⟨I, hI⟩ : ∃ I, mkS (Lib.itoa r) = I := ⟨_, rfl⟩
  rw [hI] at HI hIs
  clear hlen
  rcases kinds k with rfl | rfl | rfl | rfl | rfl | rfl | rfl | rfl | rfl | h
  · have e : textV 0 p q s r = ⟨#[110, 105, 108]⟩ := rfl
    rw [e]; clear e hI hty
    go_enter Tryd.func17, Tryd.ntmps17
    go_wp2_with fail
    ((try simp only [Exit.inBlock, Exit.then]); refine bodyPost_ret (by first | (simp [results, Tryd.results17, go_sem, *]; done) | (simp [results, Tryd.results17, go_sem, *]; rfl) | (simp [results, Tryd.results17, go_sem, ↓IntWalk.iteOmega, *]; try rfl)) rfl ?_)
    refine ⟨rfl, ?_⟩
    (repeat' (first | (with_reducible exact Below.refl _ _) | (with_reducible assumption) | (with_reducible refine Below.alloc ?_ ?_ _) | (with_reducible refine below_drewN ?_ _) | (with_reducible refine Below.drew ?_) | (with_reducible refine Below.setCell ?_ ?_ _) | (with_reducible refine below_via (by assumption) ?_ ?_) | (with_reducible refine below_via (later_below _) ?_ ?_) | (with_reducible exact Nat.le_refl _) | omega | (simp; omega) | (simp; done)))
  · have e : textV 1 p q s r = if r = 0 then ⟨#[102, 97, 108, 115, 101]⟩ else ⟨#[116, 114, 117, 101]⟩ := rfl
    rw [e]; clear e hI hty
    by_cases h0 : r = 0
    · subst h0
      rw [if_pos rfl]
      go_enter Tryd.func17, Tryd.ntmps17
      go_wp2_with fail
      ((try simp only [Exit.inBlock, Exit.then]); refine bodyPost_ret (by first | (simp [results, Tryd.results17, go_sem, *]; done) | (simp [results, Tryd.results17, go_sem, *]; rfl) | (simp [results, Tryd.results17, go_sem, ↓IntWalk.iteOmega, *]; try rfl)) rfl ?_)
      refine ⟨rfl, ?_⟩
      (repeat' (first | (with_reducible exact Below.refl _ _) | (with_reducible assumption) | (with_reducible refine Below.alloc ?_ ?_ _) | (with_reducible refine below_drewN ?_ _) | (with_reducible refine Below.drew ?_) | (with_reducible refine Below.setCell ?_ ?_ _) | (with_reducible refine below_via (by assumption) ?_ ?_) | (with_reducible refine below_via (later_below _) ?_ ?_) | (with_reducible exact Nat.le_refl _) | omega | (simp; omega) | (simp; done)))
    · rw [if_neg h0]
      go_enter Tryd.func17, Tryd.ntmps17
      go_wp2_with fail
      ((try simp only [Exit.inBlock, Exit.then]); refine bodyPost_ret (by first | (simp [results, Tryd.results17, go_sem, *]; done) | (simp [results, Tryd.results17, go_sem, *]; rfl) | (simp [results, Tryd.results17, go_sem, ↓IntWalk.iteOmega, *]; try rfl)) rfl ?_)
      refine ⟨rfl, ?_⟩
      (repeat' (first | (with_reducible exact Below.refl _ _) | (with_reducible assumption) | (with_reducible refine Below.alloc ?_ ?_ _) | (with_reducible refine below_drewN ?_ _) | (with_reducible refine Below.drew ?_) | (with_reducible refine Below.setCell ?_ ?_ _) | (with_reducible refine below_via (by assumption) ?_ ?_) | (with_reducible refine below_via (later_below _) ?_ ?_) | (with_reducible exact Nat.le_refl _) | omega | (simp; omega) | (simp; done)))
  · have e : textV 2 p q s r = mkS (textL p q) := rfl
    rw [e]; clear e hI hty
    obtain ⟨X, hX⟩ : ∃ X, mkS (textL p q) = X := ⟨_, rfl⟩
    rw [hX] at HX ⊢
    clear hX
    go_enter Tryd.func17, Tryd.ntmps17
    go_wp2_with (first | (go_at_call 29; refine (HX.out _ ?_).mono ?_; (focus ((repeat' (first | (with_reducible exact Below.refl _ _) | (with_reducible assumption) | (with_reducible refine Below.alloc ?_ ?_ _) | (with_reducible refine below_drewN ?_ _) | (with_reducible refine Below.drew ?_) | (with_reducible refine Below.setCell ?_ ?_ _) | (with_reducible refine below_via (by assumption) ?_ ?_) | (with_reducible refine below_via (later_below _) ?_ ?_) | (with_reducible exact Nat.le_refl _) | omega | (simp; omega) | (simp; done))))); rintro e w1 ⟨rfl, hb⟩))
    ((try simp only [Exit.inBlock, Exit.then]); refine bodyPost_ret (by first | (simp [results, Tryd.results17, go_sem, *]; done) | (simp [results, Tryd.results17, go_sem, *]; rfl) | (simp [results, Tryd.results17, go_sem, ↓IntWalk.iteOmega, *]; try rfl)) rfl ?_)
    refine ⟨rfl, ?_⟩
    (repeat' (first | (with_reducible exact Below.refl _ _) | (with_reducible assumption) | (with_reducible refine Below.alloc ?_ ?_ _) | (with_reducible refine below_drewN ?_ _) | (with_reducible refine Below.drew ?_) | (with_reducible refine Below.setCell ?_ ?_ _) | (with_reducible refine below_via (by assumption) ?_ ?_) | (with_reducible refine below_via (later_below _) ?_ ?_) | (with_reducible exact Nat.le_refl _) | omega | (simp; omega) | (simp; done)))
  · have e : textV 3 p q s r = s := rfl
    rw [e]; clear e hI hty
    go_enter Tryd.func17, Tryd.ntmps17
    go_wp2_with fail
    ((try simp only [Exit.inBlock, Exit.then]); refine bodyPost_ret (by first | (simp [results, Tryd.results17, go_sem, *]; done) | (simp [results, Tryd.results17, go_sem, *]; rfl) | (simp [results, Tryd.results17, go_sem, ↓IntWalk.iteOmega, *]; try rfl)) rfl ?_)
    refine ⟨rfl, ?_⟩
    (repeat' (first | (with_reducible exact Below.refl _ _) | (with_reducible assumption) | (with_reducible refine Below.alloc ?_ ?_ _) | (with_reducible refine below_drewN ?_ _) | (with_reducible refine Below.drew ?_) | (with_reducible refine Below.setCell ?_ ?_ _) | (with_reducible refine below_via (by assumption) ?_ ?_) | (with_reducible refine below_via (later_below _) ?_ ?_) | (with_reducible exact Nat.le_refl _) | omega | (simp; omega) | (simp; done)))
  case inr.inr.inr.inr.inr.inr.inl =>
    have e : textV 6 p q s r = ⟨#[98, 117, 105, 108, 116, 105, 110, 58, 32]⟩ ++ s := rfl
    rw [e]; clear e hI hty
    go_enter Tryd.func17, Tryd.ntmps17
    go_wp2_with fail
    ((try simp only [Exit.inBlock, Exit.then]); refine bodyPost_ret (by first | (simp [results, Tryd.results17, go_sem, *]; done) | (simp [results, Tryd.results17, go_sem, *]; rfl) | (simp [results, Tryd.results17, go_sem, ↓IntWalk.iteOmega, *]; try rfl)) rfl ?_)
    refine ⟨rfl, ?_⟩
    (repeat' (first | (with_reducible exact Below.refl _ _) | (with_reducible assumption) | (with_reducible refine Below.alloc ?_ ?_ _) | (with_reducible refine below_drewN ?_ _) | (with_reducible refine Below.drew ?_) | (with_reducible refine Below.setCell ?_ ?_ _) | (with_reducible refine below_via (by assumption) ?_ ?_) | (with_reducible refine below_via (later_below _) ?_ ?_) | (with_reducible exact Nat.le_refl _) | omega | (simp; omega) | (simp; done)))
  case inr.inr.inr.inr.inr.inr.inr.inr.inr =>
    rw [textV_out h]
    have hk : ∀ j : Int, 0 ≤ j → j ≤ 8 → (k == j) = false := fun j h1 h2 => by simp; omega
    have hk0 := hk 0 (by omega) (by omega)
    have hk1 := hk 1 (by omega) (by omega)
    have hk2 := hk 2 (by omega) (by omega)
    have hk3 := hk 3 (by omega) (by omega)
    have hk4 := hk 4 (by omega) (by omega)
    have hk5 := hk 5 (by omega) (by omega)
    have hk6 := hk 6 (by omega) (by omega)
    have hk7 := hk 7 (by omega) (by omega)
    have hk8 := hk 8 (by omega) (by omega)
    clear hk hI hty
    go_enter Tryd.func17, Tryd.ntmps17
    go_wp2_with fail
    ((try simp only [Exit.inBlock, Exit.then]); refine bodyPost_ret (by first | (simp [results, Tryd.results17, go_sem, *]; done) | (simp [results, Tryd.results17, go_sem, *]; rfl) | (simp [results, Tryd.results17, go_sem, ↓IntWalk.iteOmega, *]; try rfl)) rfl ?_)
    refine ⟨rfl, ?_⟩
    (repeat' (first | (with_reducible exact Below.refl _ _) | (with_reducible assumption) | (with_reducible refine Below.alloc ?_ ?_ _) | (with_reducible refine below_drewN ?_ _) | (with_reducible refine Below.drew ?_) | (with_reducible refine Below.setCell ?_ ?_ _) | (with_reducible refine below_via (by assumption) ?_ ?_) | (with_reducible refine below_via (later_below _) ?_ ?_) | (with_reducible exact Nat.le_refl _) | omega | (simp; omega) | (simp; done)))
  · have e : textV 4 p q s r = typeN 4 ++ ⟨#[58, 32]⟩ ++ mkS (Lib.itoa r) := rfl
    rw [e, hI]; clear e hI
    have HY := Lib.hid (HY.out 4)
    have ht := hty 4
    generalize typeN 4 = T at *
    clear hty
    go_enter Tryd.func17, Tryd.ntmps17
    go_wp2_with fail
    (refine wp_region_calm (by kernel_rfl) (by kernel_rfl) ?_; refine calm_mem ?_; intro N hN hne hcu; (try simp at hN); subst hN; (repeat ((refine wpQuiet_step (fun K hK => ?_)); go_simp; (repeat (simp only [↓IntWalk.iteOmega]; go_simp)); (first | (refine hK _ ?_; clear hK K) | (apply Exists.intro; refine ⟨fun _ => ?_, hK _ ?_⟩; (first | (go_at_call 15; exact calm_of (HY.out _)) | (go_at_call 39; refine calm_of (HI.out _ ?_); (repeat' (first | (with_reducible exact Below.refl _ _) | (with_reducible assumption) | (with_reducible refine Below.alloc ?_ ?_ _) | (with_reducible refine below_drewN ?_ _) | (with_reducible refine Below.drew ?_) | (with_reducible refine Below.setCell ?_ ?_ _) | (with_reducible refine below_via (by assumption) ?_ ?_) | (with_reducible refine below_via (later_below _) ?_ ?_) | (with_reducible exact Nat.le_refl _) | omega | (simp; omega) | (simp; done))))); clear hK K)))); refine wpQuiet_nil ?_; intro _ hw'; obtain ⟨⟨w1, hb⟩, hw''⟩ := hw'; subst hw''; clear hcu hne; (try dsimp only); (refine mem hb ?_; intro N hN hz hc hf; (try simp at hN); subst hN))
    go_wp2
    ((try simp only [Exit.inBlock, Exit.then]); refine bodyPost_ret (by first | (simp [results, Tryd.results17, go_sem, *]; done) | (simp [results, Tryd.results17, go_sem, *]; rfl) | (simp [results, Tryd.results17, go_sem, ↓IntWalk.iteOmega, *]; try rfl)) rfl ?_)
    refine ⟨rfl, ?_⟩
    (repeat' (first | (with_reducible exact Below.refl _ _) | (with_reducible assumption) | (with_reducible refine Below.alloc ?_ ?_ _) | (with_reducible refine below_drewN ?_ _) | (with_reducible refine Below.drew ?_) | (with_reducible refine Below.setCell ?_ ?_ _) | (with_reducible refine below_via (by assumption) ?_ ?_) | (with_reducible refine below_via (later_below _) ?_ ?_) | (with_reducible exact Nat.le_refl _) | omega | (simp; omega) | (simp; done)))
  · have e : textV 5 p q s r = typeN 5 ++ ⟨#[58, 32]⟩ ++ mkS (Lib.itoa r) := rfl
    rw [e, hI]; clear e hI
    have HY := Lib.hid (HY.out 5)
    have ht := hty 5
    generalize typeN 5 = T at *
    clear hty
    go_enter Tryd.func17, Tryd.ntmps17
    go_wp2_with fail
    (refine wp_region_calm (by kernel_rfl) (by kernel_rfl) ?_; refine calm_mem ?_; intro N hN hne hcu; (try simp at hN); subst hN; (repeat ((refine wpQuiet_step (fun K hK => ?_)); go_simp; (repeat (simp only [↓IntWalk.iteOmega]; go_simp)); (first | (refine hK _ ?_; clear hK K) | (apply Exists.intro; refine ⟨fun _ => ?_, hK _ ?_⟩; (first | (go_at_call 15; exact calm_of (HY.out _)) | (go_at_call 39; refine calm_of (HI.out _ ?_); (repeat' (first | (with_reducible exact Below.refl _ _) | (with_reducible assumption) | (with_reducible refine Below.alloc ?_ ?_ _) | (with_reducible refine below_drewN ?_ _) | (with_reducible refine Below.drew ?_) | (with_reducible refine Below.setCell ?_ ?_ _) | (with_reducible refine below_via (by assumption) ?_ ?_) | (with_reducible refine below_via (later_below _) ?_ ?_) | (with_reducible exact Nat.le_refl _) | omega | (simp; omega) | (simp; done))))); clear hK K)))); refine wpQuiet_nil ?_; intro _ hw'; obtain ⟨⟨w1, hb⟩, hw''⟩ := hw'; subst hw''; clear hcu hne; (try dsimp only); (refine mem hb ?_; intro N hN hz hc hf; (try simp at hN); subst hN))
    go_wp2
    ((try simp only [Exit.inBlock, Exit.then]); refine bodyPost_ret (by first | (simp [results, Tryd.results17, go_sem, *]; done) | (simp [results, Tryd.results17, go_sem, *]; rfl) | (simp [results, Tryd.results17, go_sem, ↓IntWalk.iteOmega, *]; try rfl)) rfl ?_)
    refine ⟨rfl, ?_⟩
    (repeat' (first | (with_reducible exact Below.refl _ _) | (with_reducible assumption) | (with_reducible refine Below.alloc ?_ ?_ _) | (with_reducible refine below_drewN ?_ _) | (with_reducible refine Below.drew ?_) | (with_reducible refine Below.setCell ?_ ?_ _) | (with_reducible refine below_via (by assumption) ?_ ?_) | (with_reducible refine below_via (later_below _) ?_ ?_) | (with_reducible exact Nat.le_refl _) | omega | (simp; omega) | (simp; done)))
  · have e : textV 7 p q s r = typeN 7 ++ ⟨#[58, 32]⟩ ++ mkS (Lib.itoa r) := rfl
    rw [e, hI]; clear e hI
    have HY := Lib.hid (HY.out 7)
    have ht := hty 7
    generalize typeN 7 = T at *
    clear hty
    go_enter Tryd.func17, Tryd.ntmps17
    go_wp2_with fail
    (refine wp_region_calm (by kernel_rfl) (by kernel_rfl) ?_; refine calm_mem ?_; intro N hN hne hcu; (try simp at hN); subst hN; (repeat ((refine wpQuiet_step (fun K hK => ?_)); go_simp; (repeat (simp only [↓IntWalk.iteOmega]; go_simp)); (first | (refine hK _ ?_; clear hK K) | (apply Exists.intro; refine ⟨fun _ => ?_, hK _ ?_⟩; (first | (go_at_call 15; exact calm_of (HY.out _)) | (go_at_call 39; refine calm_of (HI.out _ ?_); (repeat' (first | (with_reducible exact Below.refl _ _) | (with_reducible assumption) | (with_reducible refine Below.alloc ?_ ?_ _) | (with_reducible refine below_drewN ?_ _) | (with_reducible refine Below.drew ?_) | (with_reducible refine Below.setCell ?_ ?_ _) | (with_reducible refine below_via (by assumption) ?_ ?_) | (with_reducible refine below_via (later_below _) ?_ ?_) | (with_reducible exact Nat.le_refl _) | omega | (simp; omega) | (simp; done))))); clear hK K)))); refine wpQuiet_nil ?_; intro _ hw'; obtain ⟨⟨w1, hb⟩, hw''⟩ := hw'; subst hw''; clear hcu hne; (try dsimp only); (refine mem hb ?_; intro N hN hz hc hf; (try simp at hN); subst hN))
    go_wp2
    ((try simp only [Exit.inBlock, Exit.then]); refine bodyPost_ret (by first | (simp [results, Tryd.results17, go_sem, *]; done) | (simp [results, Tryd.results17, go_sem, *]; rfl) | (simp [results, Tryd.results17, go_sem, ↓IntWalk.iteOmega, *]; try rfl)) rfl ?_)
    refine ⟨rfl, ?_⟩
    (repeat' (first | (with_reducible exact Below.refl _ _) | (with_reducible assumption) | (with_reducible refine Below.alloc ?_ ?_ _) | (with_reducible refine below_drewN ?_ _) | (with_reducible refine Below.drew ?_) | (with_reducible refine Below.setCell ?_ ?_ _) | (with_reducible refine below_via (by assumption) ?_ ?_) | (with_reducible refine below_via (later_below _) ?_ ?_) | (with_reducible exact Nat.le_refl _) | omega | (simp; omega) | (simp; done)))
  · have e : textV 8 p q s r = typeN 8 ++ ⟨#[58, 32]⟩ ++ mkS (Lib.itoa r) := rfl
    rw [e, hI]; clear e hI
    have HY := Lib.hid (HY.out 8)
    have ht := hty 8
    generalize typeN 8 = T at *
    clear hty
    go_enter Tryd.func17, Tryd.ntmps17
    go_wp2_with fail
    (refine wp_region_calm (by kernel_rfl) (by kernel_rfl) ?_; refine calm_mem ?_; intro N hN hne hcu; (try simp at hN); subst hN; (repeat ((refine wpQuiet_step (fun K hK => ?_)); go_simp; (repeat (simp only [↓IntWalk.iteOmega]; go_simp)); (first | (refine hK _ ?_; clear hK K) | (apply Exists.intro; refine ⟨fun _ => ?_, hK _ ?_⟩; (first | (go_at_call 15; exact calm_of (HY.out _)) | (go_at_call 39; refine calm_of (HI.out _ ?_); (repeat' (first | (with_reducible exact Below.refl _ _) | (with_reducible assumption) | (with_reducible refine Below.alloc ?_ ?_ _) | (with_reducible refine below_drewN ?_ _) | (with_reducible refine Below.drew ?_) | (with_reducible refine Below.setCell ?_ ?_ _) | (with_reducible refine below_via (by assumption) ?_ ?_) | (with_reducible refine below_via (later_below _) ?_ ?_) | (with_reducible exact Nat.le_refl _) | omega | (simp; omega) | (simp; done))))); clear hK K)))); refine wpQuiet_nil ?_; intro _ hw'; obtain ⟨⟨w1, hb⟩, hw''⟩ := hw'; subst hw''; clear hcu hne; (try dsimp only); (refine mem hb ?_; intro N hN hz hc hf; (try simp at hN); subst hN))
    go_wp2
    ((try simp only [Exit.inBlock, Exit.then]); refine bodyPost_ret (by first | (simp [results, Tryd.results17, go_sem, *]; done) | (simp [results, Tryd.results17, go_sem, *]; rfl) | (simp [results, Tryd.results17, go_sem, ↓IntWalk.iteOmega, *]; try rfl)) rfl ?_)
    refine ⟨rfl, ?_⟩
    (repeat' (first | (with_reducible exact Below.refl _ _) | (with_reducible assumption) | (with_reducible refine Below.alloc ?_ ?_ _) | (with_reducible refine below_drewN ?_ _) | (with_reducible refine Below.drew ?_) | (with_reducible refine Below.setCell ?_ ?_ _) | (with_reducible refine below_via (by assumption) ?_ ?_) | (with_reducible refine below_via (later_below _) ?_ ?_) | (with_reducible exact Nat.le_refl _) | omega | (simp; omega) | (simp; done)))
end Go.Proofs.YtpahemohpaaeoaaDoor
