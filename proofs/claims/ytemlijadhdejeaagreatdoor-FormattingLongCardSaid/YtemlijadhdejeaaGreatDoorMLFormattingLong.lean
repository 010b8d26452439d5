/- The law FormattingLong holds: for every input it returns true, and each argument reads as it did, where the library's tables read as its text lays them. No other conditions. -/
import Derived.Test.YtemlijadhdejeaaGreatDoorMFmLv
import Derived.Test.YtemlijadhdejeaaGreatDoorMFmLawP
import Derived.Test.YtemlijadhdejeaaGreatDoorMFmC
import Derived.Test.YtemlijadhdejeaaGreatDoorMLaid
import Derived.Test.YtemlijadhdejeaaGreatDoorCards
import Derived.Test.YtemlijadhdejeaaGreatDoorTie
namespace Go.Proofs.YtemlijadhdejeaaGreatDoor.formattingLong
open Go.ChangeShapes Go.WideShapes Go.ChangeAt Go.RowKit Go.Joins
open Go.ChangeMaps (open_string shut_string)
set_option linter.unusedVariables false
theorem one_val (w w' : World) (T : TypeId) (g : Nat) (s : ByteArray) (h : w.heap.size = g) (hb : Below (w.alloc (.cells #[.int .i64 3, .int .i64 0, .int .i64 0, .string s, .int .i64 0] T)).heap.size (w.alloc (.cells #[.int .i64 3, .int .i64 0, .int .i64 0, .string s, .int .i64 0] T)) w') : VsAt w' (some ⟨g, 0, none⟩) [⟨3, 0, 0, s, 0⟩] := by
  have hc := fun i => (World.cell?_alloc_at (w := w) #[.int .i64 3, .int .i64 0, .int .i64 0, .string s, .int .i64 0] T g i h.symm)
  refine .inr ⟨g, 0, rfl, fun i hi => VAt.below ?_ hb⟩
  obtain rfl : i = 0 := by simpa using hi
  exact ⟨hc 0, hc 1, hc 2, hc 3, hc 4⟩
theorem verb_s (s : ByteArray) : fmtF (verbP 115) ⟨3, 0, 0, s, 0⟩ = (s.data.toList, true) := by
  have h1 : (txtF (verbP 115) ⟨3, 0, 0, s, 0⟩) = (s.data.toList, true) := rfl
  have h2 : fmtF (verbP 115) ⟨3, 0, 0, s, 0⟩ = (padL (txtF (verbP 115) ⟨3, 0, 0, s, 0⟩).1 0 false, (txtF (verbP 115) ⟨3, 0, 0, s, 0⟩).2) := rfl
  rw [h2, h1]
  have h3 : padN 0 s.data.toList = 0 := by unfold padN; omega
  unfold padL
  rw [h3]; simp
theorem dirs_chs (t : List UInt8) : dirsN (t.map Ev.ch) = 0 := by
  induction t with
  | nil => rfl
  | cons c t ih => exact ih
theorem long_law (c : UInt8) (hc : c.toNat ≠ 37) (m : Nat) (s : ByteArray) : fmtR (pcsT (List.replicate m c ++ [37, 115]) [] []) [⟨3, 0, 0, s, 0⟩] = endF (List.replicate m c ++ s.data.toList, 0, 0) := by
  have he : evs (List.replicate m c ++ [37, 115]) = some ((List.replicate m c).map Ev.ch ++ [.dr (verbP 115)]) := by
    rw [evs_app _ _ _ _ (Nat.le_refl _) (evs_plain (fun d hd => by rw [(List.mem_replicate.1 hd).2]; exact hc)), evs_s]; rfl
  have hp : pcsT (List.replicate m c ++ [37, 115]) [] [] = some (grp ((List.replicate m c).map Ev.ch ++ [.dr (verbP 115)]) []) := by unfold pcsT; rw [he]; rfl
  rw [hp, fmtR_grp he, runE_app, runE_chs, dirs_chs]
  simp [runE, fmtL, verb_s]
theorem repc_any (c : UInt8) (n : Nat) (k : Int) (hk : k = n) (hn : n ≤ 1000000) (w : World) : Calls Tryz.prog 20 #[.string (mkS [c]), .int .i64 k] w fun e w' => e = .returned (.string (mkS (List.replicate n c))) ∧ Below w.heap.size w w' := rep_any c n k hk hn w

set_option maxHeartbeats 8000000 in
set_option maxRecDepth 100000 in
theorem walk (n : Int) (wn : (Lit.int .u16 n).wf = true) (c : Int) (wc : (Lit.int .u8 c).wf = true) (w : World) (hT : Tabs w) :
    Calls Tryz.prog 8 #[.int .u16 n, .int .u8 c] w fun e w' => e = .returned (.bool true) ∧ Below w.heap.size w w' := by
  have HT := Lib.hid hT
  clear hT
  have HW : Hid (∀ w', Tabs w' → Calls Tryz.prog 11 #[] w' fun e w'' => e = .returned (.bool true) ∧ Below w'.heap.size w' w'') := fun w' h => lives_any w' h
  have hn : IntKind.u16.min ≤ n ∧ n ≤ IntKind.u16.max := by simpa [Lit.wf] using wn
  obtain ⟨n0, n1⟩ : 0 ≤ n ∧ n ≤ 65535 := hn
  have hc : IntKind.u8.min ≤ c ∧ c ≤ IntKind.u8.max := by simpa [Lit.wf] using wc
  obtain ⟨c0, c1⟩ : 0 ≤ c ∧ c ≤ 255 := hc
  obtain ⟨b, hb⟩ : ∃ b : UInt8, (b.toNat : Int) = c := ⟨UInt8.ofNat c.toNat, by simp; omega⟩
  subst hb
  by_cases h37 : b.toNat = 37
  · have b37 : ((b.toNat : Int) == 37) = true := by simp; omega
    clear h37
    go_enter Tryz.func8, Tryz.ntmps8
    go_wp2_with (first | (go_at_call 11; (with_reducible refine (HW.out _ (HT.out.later ?_)).mono ?_); (focus ((repeat' (first | (with_reducible exact Below.refl _ _) | (with_reducible assumption) | (with_reducible refine Below.alloc ?_ ?_ _) | (with_reducible refine below_drewN ?_ _) | (with_reducible refine Below.drew ?_) | (with_reducible refine Below.setCell ?_ ?_ _) | (with_reducible refine below_via (by assumption) ?_ ?_) | (with_reducible refine below_via (later_below _) ?_ ?_) | (with_reducible exact Nat.le_refl _) | omega | (simp; omega) | (simp; done))))); rintro e w9 ⟨rfl, hb9⟩))
    go_returns
    refine ⟨rfl, ?_⟩
    (repeat' (first | (with_reducible exact Below.refl _ _) | (with_reducible assumption) | (with_reducible refine Below.alloc ?_ ?_ _) | (with_reducible refine below_drewN ?_ _) | (with_reducible refine Below.drew ?_) | (with_reducible refine Below.setCell ?_ ?_ _) | (with_reducible refine below_via (by assumption) ?_ ?_) | (with_reducible refine below_via (later_below _) ?_ ?_) | (with_reducible exact Nat.le_refl _) | omega | (simp; omega) | (simp; done)))
  · have b37 : ((b.toNat : Int) == 37) = false := by simp; omega
    obtain ⟨k, hk⟩ : ∃ k : Nat, (k : Int) = n % 99 := ⟨(n % 99).toNat, by omega⟩
    have hk9 : k ≤ 98 := by omega
    have HR1 := Lib.hid (fun w' => repc_any b (4096 - k) (4096 - (k : Int)) (by omega) (by omega) w')
    have HR2 := Lib.hid (fun w' => rep_any 120 k (k : Int) rfl (by omega) w')
    have hm1 : (mkS (List.replicate (4096 - k) b)).size ≤ 4096 := by rw [mkS_size, List.length_replicate]; omega
    have hm2 : (mkS (List.replicate k (120 : UInt8))).size ≤ 98 := by rw [mkS_size, List.length_replicate]; omega
    have HF1 : Hid (∀ (X : ByteArray), X = mkS (List.replicate (4096 - k) b ++ [37, 115]) → ∀ (a : Option Addr) (cap : Nat) (w' : World), VsAt w' a [⟨3, 0, 0, mkS (List.replicate k 120), 0⟩] → Tabs w' → Calls Tryz.prog 15 #[.string X, .slice a 1 cap] w' fun e w'' => e = .returned (.tuple #[.string (mkS (List.replicate (4096 - k) b ++ List.replicate k 120)), .int .i64 0, .int .i64 0]) ∧ Below w'.heap.size w' w'') := fun X hX a cap w' h1 h2 => by
      subst hX
      have h := fformat_any (mkS (List.replicate (4096 - k) b ++ [37, 115])) a cap [⟨3, 0, 0, mkS (List.replicate k 120), 0⟩] w' (by rw [mkS_size]; simp; omega) (by simp) (by
        intro v hv
        simp at hv
        subst hv
        exact ⟨by dsimp only; omega, by dsimp only; omega, by dsimp only; omega⟩) h1 h2
      rw [mkS_list, long_law b h37, mkS_list] at h
      have he : endF (List.replicate (4096 - k) b ++ List.replicate k 120, 0, 0) = (List.replicate (4096 - k) b ++ List.replicate k 120, 0, 0) := if_neg (fun h => by have h2 := h.2; simp at h2; omega)
      rw [he] at h
      exact h
    have HF2 : Hid (∀ (X : ByteArray), X = mkS (List.replicate (4096 - k) b ++ [37, 115]) → ∀ (Y : ByteArray), Y = mkS (List.replicate (k + 1) 120) → ∀ (a : Option Addr) (cap : Nat) (w' : World), VsAt w' a [⟨3, 0, 0, Y, 0⟩] → Tabs w' → Calls Tryz.prog 15 #[.string X, .slice a 1 cap] w' fun e w'' => e = .returned (.tuple #[.string (mkS []), .int .i64 0, .int .i64 14]) ∧ Below w'.heap.size w' w'') := fun X hX Y hY a cap w' h1 h2 => by
      subst hX hY
      have h := fformat_any (mkS (List.replicate (4096 - k) b ++ [37, 115])) a cap [⟨3, 0, 0, mkS (List.replicate (k + 1) 120), 0⟩] w' (by rw [mkS_size]; simp; omega) (by simp) (by
        intro v hv
        simp at hv
        subst hv
        exact ⟨by dsimp only; omega, by dsimp only; omega, by dsimp only; rw [mkS_size]; simp; omega⟩) h1 h2
      rw [mkS_list, long_law b h37, mkS_list] at h
      have he : endF (List.replicate (4096 - k) b ++ List.replicate (k + 1) 120, 0, 0) = ([], 0, 14) := if_pos ⟨rfl, by simp; omega⟩
      rw [he] at h
      exact h
    have hcat : mkS (List.replicate (4096 - k) b) ++ mkS (List.replicate k 120) = mkS (List.replicate (4096 - k) b ++ List.replicate k 120) := cat_mk _ _
    obtain ⟨S1, hS1⟩ : ∃ S, mkS (List.replicate (4096 - k) b) = S := ⟨_, rfl⟩
    obtain ⟨S2, hS2⟩ : ∃ S, mkS (List.replicate k (120 : UInt8)) = S := ⟨_, rfl⟩
    obtain ⟨S3, hS3⟩ : ∃ S, mkS (List.replicate (4096 - k) b ++ List.replicate k 120) = S := ⟨_, rfl⟩
    have HX1 : Hid (S1 ++ ⟨#[37, 115]⟩ = mkS (List.replicate (4096 - k) b ++ [37, 115])) := by show _ = _; rw [← hS1, show (⟨#[37, 115]⟩ : ByteArray) = mkS [37, 115] from rfl, cat_mk]
    have HX2 : Hid (S2 ++ ⟨#[120]⟩ = mkS (List.replicate (k + 1) 120)) := by show _ = _; rw [← hS2, show (⟨#[120]⟩ : ByteArray) = mkS [120] from rfl, cat_mk, ← List.replicate_succ']
    rw [hS1] at HR1 hm1 hcat
    rw [hS2] at HR2 hm2 hcat HF1
    rw [hS3] at HF1 hcat
    have hwn : n.tmod 99 = (k : Int) := by rw [Int.tmod_eq_emod_of_nonneg n0, hk]
    have hcv := str_one b w
    clear hS1 hS2 hS3 h37 hk
    go_enter Tryz.func8, Tryz.ntmps8
    go_wp2_with (first | (go_at_call 11; (with_reducible refine (HW.out _ (HT.out.later ?_)).mono ?_); (focus ((repeat' (first | (with_reducible exact Below.refl _ _) | (with_reducible assumption) | (with_reducible refine Below.alloc ?_ ?_ _) | (with_reducible refine below_drewN ?_ _) | (with_reducible refine Below.drew ?_) | (with_reducible refine Below.setCell ?_ ?_ _) | (with_reducible refine below_via (by assumption) ?_ ?_) | (with_reducible refine below_via (later_below _) ?_ ?_) | (with_reducible exact Nat.le_refl _) | omega | (simp; omega) | (simp; done))))); rintro e w9 ⟨rfl, hb9⟩) | (go_at_call 20; (first | ((with_reducible refine (HR1.out _).mono ?_); rintro e w1 ⟨rfl, hb⟩; (refine mem hb ?_; intro N hN hz hc hf; (try simp at hN); subst hN)) | ((with_reducible refine (HR2.out _).mono ?_); rintro e w2 ⟨rfl, hb⟩; (refine mem hb ?_; intro N hN hz hc hf; (try simp at hN); subst hN)))) | (go_at_call 17; (first | ((with_reducible refine (lstr_any S2 _).mono ?_); rintro e w3 ⟨rfl, hb⟩; (refine mem hb ?_; intro N hN hz hc hf; (try simp at hN); subst hN)) | ((with_reducible refine (lstr_any (S2 ++ ⟨#[120]⟩) _).mono ?_); rintro e w5 ⟨rfl, hb⟩; (refine mem hb ?_; intro N hN hz hc hf; (try simp at hN); subst hN)))) | (go_at_call 15; (first | ((with_reducible refine (HF1.out _ HX1.out _ _ _ (one_val w3 _ _ _ _ rfl (Below.refl _ _)) (HT.out.later ?_)).mono ?_); (focus ((repeat' (first | (with_reducible exact Below.refl _ _) | (with_reducible assumption) | (with_reducible refine Below.alloc ?_ ?_ _) | (with_reducible refine below_drewN ?_ _) | (with_reducible refine Below.drew ?_) | (with_reducible refine Below.setCell ?_ ?_ _) | (with_reducible refine below_via (by assumption) ?_ ?_) | (with_reducible refine below_via (later_below _) ?_ ?_) | (with_reducible exact Nat.le_refl _) | omega | (simp; omega) | (simp; done))))); rintro e w4 ⟨rfl, hb⟩; (refine mem hb ?_; intro N hN hz hc hf; (try simp at hN); subst hN)) | ((with_reducible refine (HF2.out _ HX1.out _ HX2.out _ _ _ (one_val w5 _ _ _ _ rfl (Below.refl _ _)) (HT.out.later ?_)).mono ?_); (focus ((repeat' (first | (with_reducible exact Below.refl _ _) | (with_reducible assumption) | (with_reducible refine Below.alloc ?_ ?_ _) | (with_reducible refine below_drewN ?_ _) | (with_reducible refine Below.drew ?_) | (with_reducible refine Below.setCell ?_ ?_ _) | (with_reducible refine below_via (by assumption) ?_ ?_) | (with_reducible refine below_via (later_below _) ?_ ?_) | (with_reducible exact Nat.le_refl _) | omega | (simp; omega) | (simp; done))))); rintro e w6 ⟨rfl, hb⟩; (refine mem hb ?_; intro N hN hz hc hf; (try simp at hN); subst hN)))))
    go_returns
    refine ⟨rfl, ?_⟩
    (repeat' (first | (with_reducible exact Below.refl _ _) | (with_reducible assumption) | (with_reducible refine Below.alloc ?_ ?_ _) | (with_reducible refine below_drewN ?_ _) | (with_reducible refine Below.drew ?_) | (with_reducible refine Below.setCell ?_ ?_ _) | (with_reducible refine below_via (by assumption) ?_ ?_) | (with_reducible refine below_via (later_below _) ?_ ?_) | (with_reducible exact Nat.le_refl _) | omega | (simp; omega) | (simp; done)))

set_option maxHeartbeats 8000000 in
set_option maxRecDepth 100000 in
theorem lifted (os : Os) (started : os.Started) (H : Type) (enc : TypeId × Value → H) :
    ReturnsInHanded {} Tryz.checked os 8 .any (fun w args => (Rows.formattingLongSpec.pre enc Tryz.prog Tryz.f8 Rows.formattingLongRow.domain false w args ∧ laidMetH Tryz.prog laidS w) ∧ sizedMet enc Tryz.prog Tryz.f8 (OpenSpec.ofChange Rows.formattingLongSpec) false w args) (Rows.formattingLongSpec.post enc Tryz.prog Tryz.f8 false true false false) := by
  refine returnsInHanded_of_change_and (C := Tryz.checked) (X := fun w _ => laidMetH Tryz.prog laidS w) (fun _ _ _ hh h => h.of_heap hh) own started (by kernel_rfl) Tryz.func8
    (ChangeSpec.witness_shaped (enc := enc) (C := Tryz.checked) (os := os) (X := fun w _ => laidMetH Tryz.prog laidS w) false (World.laidAll Tryz.prog os laidS) #[.int .u16 0, .int .u8 0] 8 (World.laidAll_os _ _ _) (start_shaped os) (by kernel_rfl) (by kernel_rfl) (by kernel_rfl) (start_met os _)) ?_
  intro W base args ds gs before hval0 hW hcnd _ hL _
  have hT := laid_tabs hL
  have hval : ∀ (j : Nat) t v, Tryz.f8.params[j]? = some t → args[j]? = some v → Value.okWide Tryz.prog W .any base t v := hval0
  have hW' := hW
  obtain ⟨p, q, hA0, hV, rfl, hfz, hnd⟩ := hW
  have hA : DataW.TrodAll enc Tryz.prog W 0 (fun _ => true) true Tryz.f8.params.toList args.toList ds p := hA0
  rw [Tryz.params8] at hA hval
  obtain ⟨v0, vs0, d0, ds0, p0, q0, hargs, rfl, rfl, h0, r0⟩ := trodAll_cons hA
  obtain ⟨v1, vs1, d1, ds1, p1, q1, rfl, rfl, rfl, h1, r1⟩ := trodAll_cons r0
  obtain ⟨rfl, rfl, rfl⟩ := trodAll_nil r1
  obtain rfl : args = #[v0, v1] := by cases args; simp_all
  obtain ⟨rfl, rfl⟩ := trodVars_none hV
  have k0 := h0
  have lt0 : ∀ x ∈ p0, x.block < W.heap.size := by obtain ⟨m, hm⟩ := k0; exact DataW.trod_lt m _ _ _ hm
  obtain ⟨n, rfl, -, -, wn⟩ := open_int Tryz.underlying50 (hval 0 50 v0 rfl rfl) h0
  have k1 := h1
  have lt1 : ∀ x ∈ p1, x.block < W.heap.size := by obtain ⟨m, hm⟩ := k1; exact DataW.trod_lt m _ _ _ hm
  obtain ⟨c, rfl, -, -, wc⟩ := open_int Tryz.underlying5 (hval 1 5 v1 rfl rfl) h1
  clear hA0 hval0
  refine (walk n wn c wc W hT).mono fun e W' ⟨he, bel⟩ => ?_
  subst he
  exact ⟨_, rfl, _, _, _, [], _, [], hW', trodAll_mk1 (shut_bool Tryz.underlying4 _), (trodAll_cons_mk (Below.trod laidOut (by kernel_rfl) (of_decide_eq_true (by kernel_rfl)) k0 bel lt0) (trodAll_cons_mk (Below.trod laidOut (by kernel_rfl) (of_decide_eq_true (by kernel_rfl)) k1 bel lt1) trodAll_mk0)), rfl, bel.frame _, fun h => by cases h⟩

theorem over : Rows.formattingLongRow.holds Tryz.pinned (OpenSpec.ofChange Rows.formattingLongSpec) :=
  OpenClaim.holds_of_wide 8 Tryz.f8 rfl rfl rfl rfl rfl rfl rfl ⟨rfl, rfl, rfl, rfl, rfl⟩ rfl rfl rfl rfl rfl (by kernel_rfl) Tryz.func8 (by kernel_rfl)
    (of_decide_eq_true (by kernel_rfl)) (by unfold Func.isWrapper; first | (rw [if_pos (by decide +kernel)]; kernel_rfl) | (rw [if_neg (by decide +kernel)]; exact ⟨rfl, rfl⟩))
    (fun os started H enc _ => lifted os started H enc)

/-- The given statement: the row, tied. -/
theorem proved : Rows.FormattingLongCardSaid :=
  Claim7.holds_tied_plain_at .later [] [.data, .data, .data, .data, .pinned, .pinned] true _ false over (fun _ h => by cases h) (by kernel_rfl) (fun _ h => by cases h) formattingLong_row_tie rfl ⟨rfl, rfl⟩ (by kernel_rfl) rfl
    (fun f fn hf hfn => by
      obtain rfl : f = 8 := Option.some.inj ((show Tryz.prog.funcNamed Rows.formattingLongRow.func = some 8 by kernel_rfl).symm.trans hf) |>.symm
      obtain rfl : fn = Tryz.f8 := (Option.some.inj (Tryz.func8.symm.trans hfn)).symm
      exact ⟨by kernel_rfl, fun j t ht => by
        rw [Tryz.params8] at ht
        have hm : t ∈ [50, 5] := by simpa using Array.mem_of_getElem? ht
        have hall : ([50, 5].all fun u => !Tryz.prog.wantsStandIn u) = true := by kernel_rfl
        exact (show Tryz.prog.wantsStandIn t = false by simpa using List.all_eq_true.1 hall t hm)⟩)
    (by kernel_rfl)
#print axioms proved
end Go.Proofs.YtemlijadhdejeaaGreatDoor.formattingLong
