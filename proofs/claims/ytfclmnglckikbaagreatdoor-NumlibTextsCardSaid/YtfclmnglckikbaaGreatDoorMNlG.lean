/- Numlib's functions over a list of arguments: what each call returns, by plain functions. -/
import Derived.Test.YtfclmnglckikbaaGreatDoorMPlainB
import Derived.Test.YtfclmnglckikbaaGreatDoorMNlB
import Derived.Test.YtfclmnglckikbaaGreatDoorMNlD
import Derived.Test.YtfclmnglckikbaaGreatDoorMNlI
import Derived.Test.YtfclmnglckikbaaGreatDoorMNlW17
import Derived.Test.YtfclmnglckikbaaGreatDoorMNumW16
import Derived.Test.YtfclmnglckikbaaGreatDoorMNlF
namespace Go.Proofs.YtfclmnglckikbaaGreatDoor
open Go.RowKit Go.Instr
set_option linter.unusedVariables false

/-- The arguments in memory. -/
structure Env (W : World) (a : Option Addr) (n cap : Nat) (l : List VV) : Prop where
  len : l.length = n
  few : n ≤ 1000
  arg : ∀ i : Nat, ArgIs W a n i (argV l i).k (argV l i).p (argV l i).q (argV l i).s (argV l i).r
  low : ∀ i, -9223372036854775808 ≤ (argV l i).p
  high : ∀ i, (argV l i).p ≤ 9223372036854775807
  str : ∀ i, (argV l i).s.size ≤ 9223372036854775807
  tabs : Tabs W
theorem ArgIs.later {W w : World} {a : Option Addr} {n : Nat} {i k p q : Int} {s : ByteArray} {r : Int} (hb : Below W.heap.size W w) (h : ArgIs W a n i k p q s r) : ArgIs w a n i k p q s r := by
  rcases h with h | ⟨b, o, j, h1, h2, h3, h4⟩
  · exact .inl h
  · exact .inr ⟨b, o, j, h1, h2, h3, h4.below hb⟩
theorem Env.later {W w : World} {a : Option Addr} {n cap : Nat} {l : List VV} (E : Env W a n cap l) (hb : Below W.heap.size W w) : Env w a n cap l :=
  ⟨E.len, E.few, fun i => (E.arg i).later hb, E.low, E.high, E.str, E.tabs.later hb⟩
theorem Env.says {W : World} {a : Option Addr} {n cap : Nat} {l : List VV} (E : Env W a n cap l) (i : Int) (j : Nat) (hij : i = j) : ArgSays W a n cap i (argV l j).k (argV l j).p (argV l j).q (argV l j).s (argV l j).r := by
  subst hij
  exact fun w hb => arg_is (E.arg j) cap (by have := E.few; omega) w hb

/-- The number of argument i (from 1 on), or the message. -/
def numA (word : ByteArray) (l : List VV) (i : Nat) : (Int × Int) ⊕ ByteArray :=
  if (numV3 (argV l (i - 1)).k (argV l (i - 1)).p (argV l (i - 1)).q (argV l (i - 1)).s).2.2 = 0
  then .inl ((numV3 (argV l (i - 1)).k (argV l (i - 1)).p (argV l (i - 1)).q (argV l (i - 1)).s).1, (numV3 (argV l (i - 1)).k (argV l (i - 1)).p (argV l (i - 1)).q (argV l (i - 1)).s).2.1)
  else .inr (badS word i (gotS (argV l (i - 1)).k))
theorem numV3_bad {k p q : Int} {s : ByteArray} (h : ¬ (numV3 k p q s).2.2 = 0) : numV3 k p q s = (0, 0, 8) := by
  unfold numV3 at *
  by_cases h2 : k = 2
  · rw [if_pos h2] at h ⊢
    cases hv : vldB p q
    · rfl
    · rw [hv] at h; exact absurd rfl h
  · rw [if_neg h2] at h ⊢
    by_cases h3 : k = 3
    · rw [if_pos h3] at h ⊢
      by_cases he : (parseL s.data.toList).2.2 = 0
      · rw [if_pos he] at h; exact absurd rfl h
      · rw [if_neg he]
    · rw [if_neg h3]
theorem numV3_ok {k p q : Int} {s : ByteArray} (h : (numV3 k p q s).2.2 = 0) : vldB (numV3 k p q s).1 (numV3 k p q s).2.1 = true := by
  unfold numV3 at *
  by_cases h2 : k = 2
  · rw [if_pos h2] at h ⊢
    cases hv : vldB p q
    · rw [hv] at h; cases h
    · exact hv
  · rw [if_neg h2] at h ⊢
    by_cases h3 : k = 3
    · rw [if_pos h3] at h ⊢
      by_cases he : (parseL s.data.toList).2.2 = 0
      · rw [if_pos he]; exact parseL_ok he
      · rw [if_neg he] at h; cases h
    · rw [if_neg h3] at h; cases h
theorem numA_vld {word : ByteArray} {l : List VV} {i : Nat} {v : Int × Int} (h : numA word l i = .inl v) : vldB v.1 v.2 = true := by
  unfold numA at h
  split at h
  · rename_i h0
    have := numV3_ok h0
    cases h
    exact this
  · cases h

theorem num_at {W : World} {a : Option Addr} {n cap : Nat} {l : List VV} (E : Env W a n cap l) (word : ByteArray) (hw : word.size ≤ 100) (i : Nat) (h1 : 1 ≤ i) (h2 : i ≤ 10000) : NumAt W word a n cap i (numA word l i) := by
  have hij : ((i : Int) - 1) = ((i - 1 : Nat) : Int) := by omega
  have hv := number_v (argV l (i - 1)).k (argV l (i - 1)).p (argV l (i - 1)).q (argV l (i - 1)).s (argV l (i - 1)).r (E.str _) (E.low _) (E.high _)
  unfold numA
  by_cases h0 : (numV3 (argV l (i - 1)).k (argV l (i - 1)).p (argV l (i - 1)).q (argV l (i - 1)).s).2.2 = 0
  · rw [if_pos h0]
    rw [h0] at hv
    intro w hb
    exact number_ok word a n cap i _ _ _ _ _ _ _ w (by omega) (by omega) ((E.later hb).says _ _ hij) hv
  · rw [if_neg h0]
    rw [numV3_bad h0] at hv
    intro w hb
    exact number_bad word a n cap i _ _ _ _ _ 8 w (by omega) (by omega) hw ((E.later hb).says _ _ hij) (by omega) hv (E.tabs.later hb)

/-- The integer of argument i, or the message. -/
def intA (word : ByteArray) (l : List VV) (i : Nat) (std : Int) (opt : Bool) : Int ⊕ ByteArray :=
  if opt = true ∧ (argV l (i - 1)).k = 0 then .inl std
  else match numA word l i with
    | .inr m => .inr m
    | .inl v => if wholeB v.1 v.2 then .inl v.1 else .inr (badS word i intS)
def IntAt (W : World) (word : ByteArray) (a : Option Addr) (n cap : Nat) (i std : Int) (opt : Bool) : Int ⊕ ByteArray → Prop
  | .inl N => IntOk W word a n cap i std N opt
  | .inr m => IntBad W word a n cap i std opt m
theorem bad_says {W : World} {a : Option Addr} {n cap : Nat} (hT : Tabs W) (word : ByteArray) (hw : word.size ≤ 100) (i : Int) (h1 : -9223372036854775808 ≤ i) (h2 : i ≤ 9223372036854775807) (reason : ByteArray) (hr : reason.size ≤ 100) : BadSays W word a n cap i reason (badS word i reason) :=
  fun w hb => bad_one word a n cap i reason w hw hr h1 h2 (hT.later hb)
theorem NumOk.later {W w : World} {word : ByteArray} {a : Option Addr} {n cap : Nat} {i P Q : Int} (h : NumOk W word a n cap i P Q) (hb : Below W.heap.size W w) : NumOk w word a n cap i P Q := fun w' hb' => h w' (hb.trans (hb'.mono hb.size))
theorem NumBad.later {W w : World} {word : ByteArray} {a : Option Addr} {n cap : Nat} {i : Int} {m : ByteArray} (h : NumBad W word a n cap i m) (hb : Below W.heap.size W w) : NumBad w word a n cap i m := fun w' hb' => h w' (hb.trans (hb'.mono hb.size))
theorem wholeB_yes {p q : Int} (h : wholeB p q = true) : q = 1 ∧ vldB p 1 = true := by
  unfold wholeB at h
  simp only [Bool.and_eq_true, beq_iff_eq] at h
  obtain ⟨h1, rfl⟩ := h
  exact ⟨rfl, h1⟩

theorem int_at {W : World} {a : Option Addr} {n cap : Nat} {l : List VV} (E : Env W a n cap l) (word : ByteArray) (hw : word.size ≤ 100) (i : Nat) (h1 : 1 ≤ i) (h2 : i ≤ 10000) (std : Int) (opt : Bool) : IntAt W word a n cap i std opt (intA word l i std opt) := by
  have hij : ((i : Int) - 1) = ((i - 1 : Nat) : Int) := by omega
  have hn := num_at E word hw i h1 h2
  unfold intA
  cases opt
  · rw [if_neg (by simp)]
    cases hx : numA word l i with
    | inr m =>
      rw [hx] at hn
      intro w hb
      exact int_badnum_false word a n cap i std m w (by omega) (by omega) (NumBad.later hn hb)
    | inl v =>
      obtain ⟨P, Q⟩ := v
      have hv := numA_vld hx
      obtain ⟨b1, b2, b3, b4⟩ := vld_bd hv
      rw [hx] at hn
      dsimp only at b1 b2 b3 b4 hv ⊢
      by_cases hwh : wholeB P Q = true
      · rw [if_pos hwh]
        obtain ⟨rfl, hv1⟩ := wholeB_yes hwh
        intro w hb
        exact int_ok_false word a n cap i std P w (by omega) (by omega) (by omega) (by omega) hv1 (NumOk.later hn hb)
      · rw [if_neg hwh]
        intro w hb
        exact int_badwhole_false word a n cap i std P Q _ w (by omega) (by omega) (by omega) (by omega) (by simpa using hwh) (NumOk.later hn hb) (bad_says (E.tabs.later hb) word hw i (by omega) (by omega) intS (by decide))
  · by_cases hk : (argV l (i - 1)).k = 0
    · rw [if_pos ⟨rfl, hk⟩]
      intro w hb
      have hs := (E.later hb).says _ _ hij
      rw [hk] at hs
      exact int_std word a n cap i std _ _ _ _ w (by omega) (by omega) hs
    · rw [if_neg (fun h => hk h.2)]
      cases hx : numA word l i with
      | inr m =>
        rw [hx] at hn
        intro w hb
        exact int_badnum_true word a n cap i std _ _ _ _ _ m w (by omega) (by omega) ((E.later hb).says _ _ hij) hk (NumBad.later hn hb)
      | inl v =>
        obtain ⟨P, Q⟩ := v
        have hv := numA_vld hx
        obtain ⟨b1, b2, b3, b4⟩ := vld_bd hv
        rw [hx] at hn
        dsimp only at b1 b2 b3 b4 hv ⊢
        by_cases hwh : wholeB P Q = true
        · rw [if_pos hwh]
          obtain ⟨rfl, hv1⟩ := wholeB_yes hwh
          intro w hb
          exact int_ok_true word a n cap i std P _ _ _ _ w (by omega) (by omega) (by omega) (by omega) _ ((E.later hb).says _ _ hij) hk hv1 (NumOk.later hn hb)
        · rw [if_neg hwh]
          intro w hb
          exact int_badwhole_true word a n cap i std P Q _ _ _ _ _ _ w (by omega) (by omega) ((E.later hb).says _ _ hij) hk (by omega) (by omega) (by simpa using hwh) (NumOk.later hn hb) (bad_says (E.tabs.later hb) word hw i (by omega) (by omega) intS (by decide))
end Go.Proofs.YtfclmnglckikbaaGreatDoor

/- Numlib's Begin over a list of arguments: what each call returns, by a plain function. -/
namespace Go.Proofs.YtfclmnglckikbaaGreatDoor
open Go.RowKit Go.Instr
set_option linter.unusedVariables false

theorem ofInt_vv (n : Int) : ofInt n = vV (intVV n).k (intVV n).p (intVV n).q (intVV n).s (intVV n).r := by
  unfold ofInt intVV inB
  by_cases h : -2147483647 ≤ n ∧ n ≤ 2147483647
  · rw [if_pos (by simp [h]), if_pos h]
  · rw [if_neg (by simpa using h), if_neg h]; rfl
theorem ofNum_vv (p q : Int) : ofNumV p q = vV (numVV p q).k (numVV p q).p (numVV p q).q (numVV p q).s (numVV p q).r := by
  unfold ofNumV numVV
  split
  · rfl
  · rfl
/-- The action with a value, or with a message. -/
def ActV (base : Nat) (x : VV ⊕ ByteArray) (e : Ending) (w : World) : Prop :=
  match x with
  | .inl v => ActIs base 1 0 v.k v.p v.q v.s v.r e w
  | .inr m => ActIs base 2 1 3 0 0 m 0 e w

/-- What the functions of one number answer. -/
def oneV (f : Nat) (P Q : Int) : VV :=
  if f = 0 then numVV (if P < 0 then -P else P) Q
  else if f = 2 then numVV (ceilT P Q).1 (ceilT P Q).2.1
  else if f = 5 then numVV (floorT P Q).1 (floorT P Q).2.1
  else if f = 8 then intVV P
  else if f = 3 then intVV Q
  else intVV (cmpT P Q 0 1)
def oneA (f : Nat) (word : ByteArray) (l : List VV) : VV ⊕ ByteArray :=
  match numA word l 1 with
  | .inr m => .inr m
  | .inl v => .inl (oneV f v.1 v.2)
def isOne (f : Nat) : Prop := f = 0 ∨ f = 2 ∨ f = 3 ∨ f = 5 ∨ f = 8 ∨ f = 9

theorem one_at {W : World} {a : Option Addr} {n cap : Nat} {l : List VV} (E : Env W a n cap l) (word : ByteArray) (hw : word.size ≤ 100) (f : Nat) (hf : isOne f) :
    Calls Tryz.prog 36 #[.agg #[.string word, .slice a n cap], .int .i64 f] W fun e w' => ActV W.heap.size (oneA f word l) e w' ∧ Below W.heap.size W w' := by
  have hn := num_at E word hw 1 (by omega) (by omega)
  unfold oneA
  cases hx : numA word l 1 with
  | inr m =>
    rw [hx] at hn
    exact one_bad word a n cap f m W hn
  | inl v =>
    obtain ⟨P, Q⟩ := v
    have hv := numA_vld hx
    obtain ⟨b1, b2, b3, b4⟩ := vld_bd hv
    rw [hx] at hn
    dsimp only at b1 b2 b3 b4 hv ⊢
    rcases hf with rfl | rfl | rfl | rfl | rfl | rfl
    · by_cases h0 : P < 0
      · have := one_abs_neg word a n cap P Q _ _ _ _ _ W (by omega) (by omega) h0 hn (ofNum_vv _ _)
        unfold oneV; rw [if_pos rfl, if_pos h0]; exact this
      · have := one_abs word a n cap P Q _ _ _ _ _ W (by omega) (by omega) (by omega) hn (ofNum_vv _ _)
        unfold oneV; rw [if_pos rfl, if_neg h0]; exact this
    · obtain ⟨hc, hcv, _⟩ := ceil_T hv
      have hcb := vld_bd hcv
      have h1 : (ceilT P Q).1 = -((-P).fdiv Q) := by rw [hc]
      exact one_ceil word a n cap P Q _ _ _ _ _ W (by omega) (by omega) hn (by rw [h1]; omega) (by rw [h1]; omega) (ofNum_vv _ _)
    · exact one_den word a n cap P Q _ _ _ _ _ W hn (ofInt_vv _)
    · obtain ⟨hc, hcv, _⟩ := floor_T hv
      have hcb := vld_bd hcv
      have h1 : (floorT P Q).1 = P.fdiv Q := by rw [hc]
      exact one_floor word a n cap P Q _ _ _ _ _ W (by omega) (by omega) hn (by rw [h1]; omega) (by rw [h1]; omega) (ofNum_vv _ _)
    · exact one_num word a n cap P Q _ _ _ _ _ W hn (ofInt_vv _)
    · exact one_sign word a n cap P Q _ _ _ _ _ W (by omega) (by omega) hn (ofInt_vv _)

/-- What number.fixed answers. -/
def placesA (word : ByteArray) (l : List VV) : VV ⊕ ByteArray :=
  match numA word l 1 with
  | .inr m => .inr m
  | .inl v => match intA word l 2 0 true with
    | .inr m => .inr m
    | .inl N => if (fixL v.1 v.2 N).2 = 0 then .inl (strVV (mkS (fixL v.1 v.2 N).1)) else .inr (badS word 2 oorS)
theorem places_at {W : World} {a : Option Addr} {n cap : Nat} {l : List VV} (E : Env W a n cap l) (word : ByteArray) (hw : word.size ≤ 100) :
    Calls Tryz.prog 33 #[.agg #[.string word, .slice a n cap]] W fun e w' => ActV W.heap.size (placesA word l) e w' ∧ Below W.heap.size W w' := by
  have hn := num_at E word hw 1 (by omega) (by omega)
  have hi := int_at E word hw 2 (by omega) (by omega) 0 true
  unfold placesA
  cases hx : numA word l 1 with
  | inr m =>
    rw [hx] at hn
    exact places_bad1 word a n cap m W hn
  | inl v =>
    obtain ⟨P, Q⟩ := v
    have hv := numA_vld hx
    obtain ⟨b1, b2, b3, b4⟩ := vld_bd hv
    rw [hx] at hn
    dsimp only at b1 b2 b3 b4 hv ⊢
    cases hy : intA word l 2 0 true with
    | inr m =>
      rw [hy] at hi
      exact places_bad2 word a n cap P Q m W hn hi
    | inl N =>
      rw [hy] at hi
      dsimp only
      have hF : ∀ w', Below W.heap.size W w' → Calls Tryz.prog 22 #[.agg #[.int .i64 P, .int .i64 Q], .int .i64 N] w' fun e w'' => e = .returned (.tuple #[.string (mkS (fixL P Q N).1), .int .i64 (fixL P Q N).2]) ∧ Below w'.heap.size w' w'' := fun w' hb => fixed_any P Q N w' (by omega) (by omega) (E.tabs.later hb)
      by_cases h0 : (fixL P Q N).2 = 0
      · rw [if_pos h0]
        rw [h0] at hF
        exact places_ok word a n cap P Q N _ W hn hi hF
      · rw [if_neg h0]
        exact places_bad3 word a n cap P Q N _ _ _ W hn hi hF h0 (bad_says E.tabs word hw 2 (by omega) (by omega) oorS (by decide))
/-- What number.base answers. -/
def digitsA (word : ByteArray) (l : List VV) : VV ⊕ ByteArray :=
  match intA word l 1 0 false with
  | .inr m => .inr m
  | .inl P => match intA word l 2 10 true with
    | .inr m => .inr m
    | .inl N => if (baseL P N).2 = 0 then .inl (strVV (mkS (baseL P N).1)) else .inr (badS word 2 oorS)
theorem intA_bd {word : ByteArray} {l : List VV} {i : Nat} {std : Int} {opt : Bool} {N : Int} (h : intA word l i std opt = .inl N) (hs : -2147483647 ≤ std ∧ std ≤ 2147483647) : -2147483647 ≤ N ∧ N ≤ 2147483647 := by
  unfold intA at h
  split at h
  · cases h; exact hs
  · cases hx : numA word l i with
    | inr m => rw [hx] at h; cases h
    | inl v =>
      rw [hx] at h
      dsimp only at h
      split at h
      · cases h
        obtain ⟨b1, b2, b3, b4⟩ := vld_bd (numA_vld hx)
        exact ⟨b3, b4⟩
      · cases h
theorem base_at {W : World} {a : Option Addr} {n cap : Nat} {l : List VV} (E : Env W a n cap l) (word : ByteArray) (hw : word.size ≤ 100) :
    Calls Tryz.prog 34 #[.agg #[.string word, .slice a n cap]] W fun e w' => ActV W.heap.size (digitsA word l) e w' ∧ Below W.heap.size W w' := by
  have hn := int_at E word hw 1 (by omega) (by omega) 0 false
  have hi := int_at E word hw 2 (by omega) (by omega) 10 true
  unfold digitsA
  cases hx : intA word l 1 0 false with
  | inr m =>
    rw [hx] at hn
    exact digits_bad1 word a n cap m W hn
  | inl P =>
    obtain ⟨b3, b4⟩ := intA_bd hx (by omega)
    rw [hx] at hn
    dsimp only
    cases hy : intA word l 2 10 true with
    | inr m =>
      rw [hy] at hi
      exact digits_bad2 word a n cap P m W hn hi
    | inl N =>
      rw [hy] at hi
      dsimp only
      have hF : ∀ w', Below W.heap.size W w' → Calls Tryz.prog 24 #[.int .i64 P, .int .i64 N] w' fun e w'' => e = .returned (.tuple #[.string (mkS (baseL P N).1), .int .i64 (baseL P N).2]) ∧ Below w'.heap.size w' w'' := fun w' hb => base_any P N (by omega) (by omega) w' (E.tabs.later hb)
      by_cases h0 : (baseL P N).2 = 0
      · rw [if_pos h0]
        rw [h0] at hF
        exact digits_ok word a n cap P N _ W hn hi hF
      · rw [if_neg h0]
        exact digits_bad3 word a n cap P N _ _ _ W hn hi hF h0 (bad_says E.tabs word hw 2 (by omega) (by omega) oorS (by decide))
/-- What number.max, number.min answer. -/
def extA (f : Int) (word : ByteArray) (l : List VV) : VV ⊕ ByteArray :=
  match extR f (numA word l) (l.length - 1) with
  | .inr m => .inr m
  | .inl v => .inl (numVV v.1 v.2)
theorem ext_at {W : World} {a : Option Addr} {n cap : Nat} {l : List VV} (E : Env W a n cap l) (word : ByteArray) (hw : word.size ≤ 100) (f : Int) (hf : f = 6 ∨ f = 7) :
    Calls Tryz.prog 32 #[.agg #[.string word, .slice a n cap], .int .i64 f] W fun e w' => ActV W.heap.size (extA f word l) e w' ∧ Below W.heap.size W w' := by
  have hfew := E.few
  have h := extreme_v f hf word a n cap hfew (numA word l) W (fun i h1 h2 => num_at E word hw i h1 (by omega)) (fun i v hv => by obtain ⟨b1, b2, b3, b4⟩ := vld_bd (numA_vld hv); omega)
  unfold extA
  rw [E.len]
  refine h.mono ?_
  rintro e w' ⟨h1, h2⟩
  refine ⟨?_, h2⟩
  cases hx : extR f (numA word l) (n - 1) with
  | inr m => rw [hx] at h1; exact h1
  | inl v =>
    rw [hx] at h1
    obtain ⟨k, p, q, s, r, h3, h4⟩ := h1
    rw [ofNum_vv] at h3
    simp only [Value.agg.injEq, Array.mk.injEq, List.cons.injEq, Value.int.injEq, Value.string.injEq, true_and, and_true] at h3
    obtain ⟨e1, e2, e3, e4, e5⟩ := h3
    show ActIs _ 1 0 (numVV v.1 v.2).k (numVV v.1 v.2).p (numVV v.1 v.2).q (numVV v.1 v.2).s (numVV v.1 v.2).r e w'
    rw [e1, e2, e3, e4, e5]
    exact h4
def fracS : ByteArray := ⟨#[102, 114, 97, 99, 116, 105, 111, 110]⟩
def integS : ByteArray := ⟨#[105, 110, 116, 101, 103, 101, 114]⟩
/-- What number.type answers. -/
def kindA (v : VV) : VV := if v.k = 2 then (if v.q = 1 then strVV integS else strVV fracS) else nilV
theorem kind_at {W : World} {a : Option Addr} {n cap : Nat} {l : List VV} (E : Env W a n cap l) (word : ByteArray) (hw : word.size ≤ 100) :
    Calls Tryz.prog 35 #[.agg #[.string word, .slice a n cap]] W fun e w' => ActV W.heap.size (.inl (kindA (argV l 0))) e w' ∧ Below W.heap.size W w' := by
  have hs := E.says 0 0 rfl
  unfold kindA
  by_cases hk : (argV l 0).k = 2
  · rw [if_pos hk]
    rw [hk] at hs
    by_cases hq : (argV l 0).q = 1
    · rw [if_pos hq]
      rw [hq] at hs
      exact kind_int word a n cap _ _ _ W hs
    · rw [if_neg hq]
      exact kind_frac word a n cap _ _ _ _ W hs hq
  · rw [if_neg hk]
    exact kind_no word a n cap _ _ _ _ _ W hs hk
end Go.Proofs.YtfclmnglckikbaaGreatDoor

/- Numlib's Begin at each name: what each call returns, by a plain function. -/
namespace Go.Proofs.YtfclmnglckikbaaGreatDoor
open Go.RowKit Go.Instr
set_option linter.unusedVariables false

theorem toList_eq (a b : ByteArray) : (a.toList == b.toList) = (a.data.toList == b.data.toList) := by rw [Lib.toList_data, Lib.toList_data]
theorem names_fin : ∀ i : Fin 11, ∀ j : Fin 11, ((nmN i.val).data.toList == ((⟨#[110, 117, 109, 98, 101, 114, 46]⟩ : ByteArray) ++ wordN j.val).data.toList) = decide (i = j) := by decide +kernel
theorem names_ne (i : Nat) (hi : i < 11) (k : Nat) (hk : k ≤ i) : ∀ j, j < k → ((nmN i).toList == ((⟨#[110, 117, 109, 98, 101, 114, 46]⟩ : ByteArray) ++ wordN j).toList) = false := by
  intro j hj
  rw [toList_eq]
  have := names_fin ⟨i, hi⟩ ⟨j, by omega⟩
  rw [this]
  simp
  omega
theorem names_eq (i : Nat) (hi : i < 11) : ((nmN i).toList == ((⟨#[110, 117, 109, 98, 101, 114, 46]⟩ : ByteArray) ++ wordN i).toList) = true := by
  rw [toList_eq]
  have := names_fin ⟨i, hi⟩ ⟨i, hi⟩
  rw [this]
  simp

theorem bv_0 (hp : Value) (a : Option Addr) (n cap : Nat) (x : VV ⊕ ByteArray) (w : World) (hm : ∀ w', Below w.heap.size w w' → Calls Tryz.prog 36 #[.agg #[.string (wordN 0), .slice a n cap], .int .i64 0] w' fun e w'' => ActV w'.heap.size x e w'' ∧ Below w'.heap.size w' w'') :
    Calls Tryz.prog 15 #[hp, .string (nmN 0), .slice a n cap] w fun e w' => ActV w.heap.size x e w' ∧ Below w.heap.size w w' := by
  cases x with
  | inl v => exact begin_0 hp (nmN 0) a n cap 1 0 v.k v.p v.q v.s v.r w (names_ne 0 (by omega) 0 (by omega)) (names_eq 0 (by omega)) hm
  | inr m => exact begin_0 hp (nmN 0) a n cap 2 1 3 0 0 m 0 w (names_ne 0 (by omega) 0 (by omega)) (names_eq 0 (by omega)) hm

theorem bv_1 (hp : Value) (a : Option Addr) (n cap : Nat) (x : VV ⊕ ByteArray) (w : World) (hm : ∀ w', Below w.heap.size w w' → Calls Tryz.prog 34 #[.agg #[.string (wordN 1), .slice a n cap]] w' fun e w'' => ActV w'.heap.size x e w'' ∧ Below w'.heap.size w' w'') :
    Calls Tryz.prog 15 #[hp, .string (nmN 1), .slice a n cap] w fun e w' => ActV w.heap.size x e w' ∧ Below w.heap.size w w' := by
  cases x with
  | inl v => exact begin_1 hp (nmN 1) a n cap 1 0 v.k v.p v.q v.s v.r w (names_ne 1 (by omega) 1 (by omega)) (names_eq 1 (by omega)) hm
  | inr m => exact begin_1 hp (nmN 1) a n cap 2 1 3 0 0 m 0 w (names_ne 1 (by omega) 1 (by omega)) (names_eq 1 (by omega)) hm

theorem bv_2 (hp : Value) (a : Option Addr) (n cap : Nat) (x : VV ⊕ ByteArray) (w : World) (hm : ∀ w', Below w.heap.size w w' → Calls Tryz.prog 36 #[.agg #[.string (wordN 2), .slice a n cap], .int .i64 2] w' fun e w'' => ActV w'.heap.size x e w'' ∧ Below w'.heap.size w' w'') :
    Calls Tryz.prog 15 #[hp, .string (nmN 2), .slice a n cap] w fun e w' => ActV w.heap.size x e w' ∧ Below w.heap.size w w' := by
  cases x with
  | inl v => exact begin_2 hp (nmN 2) a n cap 1 0 v.k v.p v.q v.s v.r w (names_ne 2 (by omega) 2 (by omega)) (names_eq 2 (by omega)) hm
  | inr m => exact begin_2 hp (nmN 2) a n cap 2 1 3 0 0 m 0 w (names_ne 2 (by omega) 2 (by omega)) (names_eq 2 (by omega)) hm

theorem bv_3 (hp : Value) (a : Option Addr) (n cap : Nat) (x : VV ⊕ ByteArray) (w : World) (hm : ∀ w', Below w.heap.size w w' → Calls Tryz.prog 36 #[.agg #[.string (wordN 3), .slice a n cap], .int .i64 3] w' fun e w'' => ActV w'.heap.size x e w'' ∧ Below w'.heap.size w' w'') :
    Calls Tryz.prog 15 #[hp, .string (nmN 3), .slice a n cap] w fun e w' => ActV w.heap.size x e w' ∧ Below w.heap.size w w' := by
  cases x with
  | inl v => exact begin_3 hp (nmN 3) a n cap 1 0 v.k v.p v.q v.s v.r w (names_ne 3 (by omega) 3 (by omega)) (names_eq 3 (by omega)) hm
  | inr m => exact begin_3 hp (nmN 3) a n cap 2 1 3 0 0 m 0 w (names_ne 3 (by omega) 3 (by omega)) (names_eq 3 (by omega)) hm

theorem bv_4 (hp : Value) (a : Option Addr) (n cap : Nat) (x : VV ⊕ ByteArray) (w : World) (hm : ∀ w', Below w.heap.size w w' → Calls Tryz.prog 33 #[.agg #[.string (wordN 4), .slice a n cap]] w' fun e w'' => ActV w'.heap.size x e w'' ∧ Below w'.heap.size w' w'') :
    Calls Tryz.prog 15 #[hp, .string (nmN 4), .slice a n cap] w fun e w' => ActV w.heap.size x e w' ∧ Below w.heap.size w w' := by
  cases x with
  | inl v => exact begin_4 hp (nmN 4) a n cap 1 0 v.k v.p v.q v.s v.r w (names_ne 4 (by omega) 4 (by omega)) (names_eq 4 (by omega)) hm
  | inr m => exact begin_4 hp (nmN 4) a n cap 2 1 3 0 0 m 0 w (names_ne 4 (by omega) 4 (by omega)) (names_eq 4 (by omega)) hm

theorem bv_5 (hp : Value) (a : Option Addr) (n cap : Nat) (x : VV ⊕ ByteArray) (w : World) (hm : ∀ w', Below w.heap.size w w' → Calls Tryz.prog 36 #[.agg #[.string (wordN 5), .slice a n cap], .int .i64 5] w' fun e w'' => ActV w'.heap.size x e w'' ∧ Below w'.heap.size w' w'') :
    Calls Tryz.prog 15 #[hp, .string (nmN 5), .slice a n cap] w fun e w' => ActV w.heap.size x e w' ∧ Below w.heap.size w w' := by
  cases x with
  | inl v => exact begin_5 hp (nmN 5) a n cap 1 0 v.k v.p v.q v.s v.r w (names_ne 5 (by omega) 5 (by omega)) (names_eq 5 (by omega)) hm
  | inr m => exact begin_5 hp (nmN 5) a n cap 2 1 3 0 0 m 0 w (names_ne 5 (by omega) 5 (by omega)) (names_eq 5 (by omega)) hm

theorem bv_6 (hp : Value) (a : Option Addr) (n cap : Nat) (x : VV ⊕ ByteArray) (w : World) (hm : ∀ w', Below w.heap.size w w' → Calls Tryz.prog 32 #[.agg #[.string (wordN 6), .slice a n cap], .int .i64 6] w' fun e w'' => ActV w'.heap.size x e w'' ∧ Below w'.heap.size w' w'') :
    Calls Tryz.prog 15 #[hp, .string (nmN 6), .slice a n cap] w fun e w' => ActV w.heap.size x e w' ∧ Below w.heap.size w w' := by
  cases x with
  | inl v => exact begin_6 hp (nmN 6) a n cap 1 0 v.k v.p v.q v.s v.r w (names_ne 6 (by omega) 6 (by omega)) (names_eq 6 (by omega)) hm
  | inr m => exact begin_6 hp (nmN 6) a n cap 2 1 3 0 0 m 0 w (names_ne 6 (by omega) 6 (by omega)) (names_eq 6 (by omega)) hm

theorem bv_7 (hp : Value) (a : Option Addr) (n cap : Nat) (x : VV ⊕ ByteArray) (w : World) (hm : ∀ w', Below w.heap.size w w' → Calls Tryz.prog 32 #[.agg #[.string (wordN 7), .slice a n cap], .int .i64 7] w' fun e w'' => ActV w'.heap.size x e w'' ∧ Below w'.heap.size w' w'') :
    Calls Tryz.prog 15 #[hp, .string (nmN 7), .slice a n cap] w fun e w' => ActV w.heap.size x e w' ∧ Below w.heap.size w w' := by
  cases x with
  | inl v => exact begin_7 hp (nmN 7) a n cap 1 0 v.k v.p v.q v.s v.r w (names_ne 7 (by omega) 7 (by omega)) (names_eq 7 (by omega)) hm
  | inr m => exact begin_7 hp (nmN 7) a n cap 2 1 3 0 0 m 0 w (names_ne 7 (by omega) 7 (by omega)) (names_eq 7 (by omega)) hm

theorem bv_8 (hp : Value) (a : Option Addr) (n cap : Nat) (x : VV ⊕ ByteArray) (w : World) (hm : ∀ w', Below w.heap.size w w' → Calls Tryz.prog 36 #[.agg #[.string (wordN 8), .slice a n cap], .int .i64 8] w' fun e w'' => ActV w'.heap.size x e w'' ∧ Below w'.heap.size w' w'') :
    Calls Tryz.prog 15 #[hp, .string (nmN 8), .slice a n cap] w fun e w' => ActV w.heap.size x e w' ∧ Below w.heap.size w w' := by
  cases x with
  | inl v => exact begin_8 hp (nmN 8) a n cap 1 0 v.k v.p v.q v.s v.r w (names_ne 8 (by omega) 8 (by omega)) (names_eq 8 (by omega)) hm
  | inr m => exact begin_8 hp (nmN 8) a n cap 2 1 3 0 0 m 0 w (names_ne 8 (by omega) 8 (by omega)) (names_eq 8 (by omega)) hm

theorem bv_9 (hp : Value) (a : Option Addr) (n cap : Nat) (x : VV ⊕ ByteArray) (w : World) (hm : ∀ w', Below w.heap.size w w' → Calls Tryz.prog 36 #[.agg #[.string (wordN 9), .slice a n cap], .int .i64 9] w' fun e w'' => ActV w'.heap.size x e w'' ∧ Below w'.heap.size w' w'') :
    Calls Tryz.prog 15 #[hp, .string (nmN 9), .slice a n cap] w fun e w' => ActV w.heap.size x e w' ∧ Below w.heap.size w w' := by
  cases x with
  | inl v => exact begin_9 hp (nmN 9) a n cap 1 0 v.k v.p v.q v.s v.r w (names_ne 9 (by omega) 9 (by omega)) (names_eq 9 (by omega)) hm
  | inr m => exact begin_9 hp (nmN 9) a n cap 2 1 3 0 0 m 0 w (names_ne 9 (by omega) 9 (by omega)) (names_eq 9 (by omega)) hm

theorem bv_10 (hp : Value) (a : Option Addr) (n cap : Nat) (x : VV ⊕ ByteArray) (w : World) (hm : ∀ w', Below w.heap.size w w' → Calls Tryz.prog 35 #[.agg #[.string (wordN 10), .slice a n cap]] w' fun e w'' => ActV w'.heap.size x e w'' ∧ Below w'.heap.size w' w'') :
    Calls Tryz.prog 15 #[hp, .string (nmN 10), .slice a n cap] w fun e w' => ActV w.heap.size x e w' ∧ Below w.heap.size w w' := by
  cases x with
  | inl v => exact begin_10 hp (nmN 10) a n cap 1 0 v.k v.p v.q v.s v.r w (names_ne 10 (by omega) 10 (by omega)) (names_eq 10 (by omega)) hm
  | inr m => exact begin_10 hp (nmN 10) a n cap 2 1 3 0 0 m 0 w (names_ne 10 (by omega) 10 (by omega)) (names_eq 10 (by omega)) hm

/-- What function number j answers. -/
def beginA (j : Nat) (l : List VV) : VV ⊕ ByteArray :=
  match j with
  | 1 => digitsA (wordN 1) l
  | 4 => placesA (wordN 4) l
  | 6 => extA 6 (wordN 6) l
  | 7 => extA 7 (wordN 7) l
  | 10 => .inl (kindA (argV l 0))
  | j => oneA j (wordN j) l
theorem word_few (j : Nat) (hj : j < 11) : (wordN j).size ≤ 100 := by have := wordN_size j hj; omega
theorem begin_at {W : World} {a : Option Addr} {n cap : Nat} {l : List VV} (E : Env W a n cap l) (hp : Value) (j : Nat) (hj : j < 11) :
    Calls Tryz.prog 15 #[hp, .string (nmN j), .slice a n cap] W fun e w' => ActV W.heap.size (beginA j l) e w' ∧ Below W.heap.size W w' := by
  have hw := word_few j hj
  match j, hj, hw with
  | 0, _, hw => exact bv_0 hp a n cap _ W fun w' hb => one_at (E.later hb) _ hw 0 (by unfold isOne; omega)
  | 1, _, hw => exact bv_1 hp a n cap _ W fun w' hb => base_at (E.later hb) _ hw
  | 2, _, hw => exact bv_2 hp a n cap _ W fun w' hb => one_at (E.later hb) _ hw 2 (by unfold isOne; omega)
  | 3, _, hw => exact bv_3 hp a n cap _ W fun w' hb => one_at (E.later hb) _ hw 3 (by unfold isOne; omega)
  | 4, _, hw => exact bv_4 hp a n cap _ W fun w' hb => places_at (E.later hb) _ hw
  | 5, _, hw => exact bv_5 hp a n cap _ W fun w' hb => one_at (E.later hb) _ hw 5 (by unfold isOne; omega)
  | 6, _, hw => exact bv_6 hp a n cap _ W fun w' hb => ext_at (E.later hb) _ hw 6 (.inl rfl)
  | 7, _, hw => exact bv_7 hp a n cap _ W fun w' hb => ext_at (E.later hb) _ hw 7 (.inr rfl)
  | 8, _, hw => exact bv_8 hp a n cap _ W fun w' hb => one_at (E.later hb) _ hw 8 (by unfold isOne; omega)
  | 9, _, hw => exact bv_9 hp a n cap _ W fun w' hb => one_at (E.later hb) _ hw 9 (by unfold isOne; omega)
  | 10, _, hw => exact bv_10 hp a n cap _ W fun w' hb => kind_at (E.later hb) _ hw

theorem result_at {W : World} {a : Option Addr} {n cap : Nat} {l : List VV} (E : Env W a n cap l) (j : Nat) (hj : j < 11) :
    Calls Tryz.prog 18 #[.string (nmN j), .slice a n cap] W fun e w' => e = .returned (match beginA j l with | .inl v => .tuple #[vV v.k v.p v.q v.s v.r, .bool true] | .inr _ => .tuple #[vV 0 0 0 ⟨#[]⟩ 0, .bool false]) ∧ Below W.heap.size W w' := by
  have h : ∀ w, Below W.heap.size W w → Calls Tryz.prog 15 #[.pointer none, .string (nmN j), .slice a n cap] w fun e w' => ActV w.heap.size (beginA j l) e w' ∧ Below w.heap.size w w' := fun w hb => begin_at (E.later hb) _ j hj
  cases hx : beginA j l with
  | inl v =>
    rw [hx] at h
    exact result_ret (nmN j) a n cap v.k v.p v.q v.s v.r W h
  | inr m =>
    rw [hx] at h
    exact result_no (nmN j) a n cap 1 3 0 0 m 0 W h
theorem message_at {W : World} {a : Option Addr} {n cap : Nat} {l : List VV} (E : Env W a n cap l) (j : Nat) (hj : j < 11) {m : ByteArray} (hx : beginA j l = .inr m) :
    Calls Tryz.prog 12 #[.string (nmN j), .slice a n cap] W fun e w' => e = .returned (.string m) ∧ Below W.heap.size W w' := by
  refine message_fail (nmN j) a n cap 3 0 0 m 0 W fun hp w hb => ?_
  have h := begin_at (E.later hb) hp j hj
  rw [hx] at h
  exact h
end Go.Proofs.YtfclmnglckikbaaGreatDoor

/- Numlib's examples: the values that the calls of awake answer. -/
namespace Go.Proofs.YtfclmnglckikbaaGreatDoor
open Go.RowKit Go.Instr
set_option linter.unusedVariables false

theorem Cells5.alloc {w : World} {g : Nat} {k p q : Int} {s : ByteArray} {r : Int} (o : Obj) (h : Cells5 w g k p q s r) : Cells5 (w.alloc o) g k p q s r := h.below ((Below.refl _ _).alloc (Nat.le_refl _) o)
theorem env0 {w : World} (hT : Tabs w) : Env w none 0 0 [] :=
  ⟨rfl, by omega, fun i => .inl ⟨.inr ⟨by omega, by omega⟩, rfl, rfl, rfl, rfl, rfl⟩, fun i => by show -9223372036854775808 ≤ (0 : Int); omega, fun i => by show (0 : Int) ≤ 9223372036854775807; omega, fun i => by show (0 : Nat) ≤ 9223372036854775807; omega, hT⟩
/-- A value whose number and string are in range. -/
def okV (v : VV) : Prop := -9223372036854775808 ≤ v.p ∧ v.p ≤ 9223372036854775807 ∧ v.s.size ≤ 9223372036854775807
theorem okV_nil : okV nilV := ⟨by decide, by decide, by decide⟩
theorem okV_arg {l : List VV} (h : ∀ v ∈ l, okV v) (i : Nat) : okV (argV l i) := by
  by_cases hi : i < l.length
  · rw [argV_lt hi]; exact h _ (List.getElem_mem hi)
  · rw [argV_ge (by omega)]; exact okV_nil
theorem env_of {w : World} {b n cap : Nat} {l : List VV} (hT : Tabs w) (hl : l.length = n) (hn : n ≤ 1000) (hok : ∀ v ∈ l, okV v)
    (hc : ∀ j, j < n → CellsAt w b (j * 5) (argV l j).k (argV l j).p (argV l j).q (argV l j).s (argV l j).r) : Env w (some ⟨b, 0, none⟩) n cap l := by
  refine ⟨hl, hn, fun i => ?_, fun i => (okV_arg hok i).1, fun i => (okV_arg hok i).2.1, fun i => (okV_arg hok i).2.2, hT⟩
  by_cases hi : i < n
  · exact .inr ⟨b, 0, i, rfl, rfl, hi, by rw [Nat.zero_add]; exact hc i hi⟩
  · rw [argV_ge (by omega)]
    exact .inl ⟨.inr ⟨by omega, by omega⟩, rfl, rfl, rfl, rfl, rfl⟩
theorem all1 {P : VV → Prop} {x : VV} (hx : P x) : ∀ v ∈ [x], P v := fun v hv => by simp at hv; rw [hv]; exact hx
theorem all2 {P : VV → Prop} {x y : VV} (hx : P x) (hy : P y) : ∀ v ∈ [x, y], P v := fun v hv => by
  simp at hv; rcases hv with rfl | rfl <;> assumption
theorem all3 {P : VV → Prop} {x y z : VV} (hx : P x) (hy : P y) (hz : P z) : ∀ v ∈ [x, y, z], P v := fun v hv => by
  simp at hv; rcases hv with rfl | rfl | rfl <;> assumption
theorem env1 {w : World} {b cap : Nat} {x : VV} (hT : Tabs w) (hx : okV x) (h : CellsAt w b 0 x.k x.p x.q x.s x.r) : Env w (some ⟨b, 0, none⟩) 1 cap [x] :=
  env_of hT rfl (by omega) (all1 hx) fun j hj => by
    match j, hj with
    | 0, _ => exact h
theorem env2 {w : World} {b cap : Nat} {x y : VV} (hT : Tabs w) (hx : okV x) (hy : okV y) (h : CellsAt w b 0 x.k x.p x.q x.s x.r) (h2 : CellsAt w b 5 y.k y.p y.q y.s y.r) : Env w (some ⟨b, 0, none⟩) 2 cap [x, y] :=
  env_of hT rfl (by omega) (all2 hx hy) fun j hj => by
    match j, hj with
    | 0, _ => exact h
    | 1, _ => exact h2
theorem env3 {w : World} {b cap : Nat} {x y z : VV} (hT : Tabs w) (hx : okV x) (hy : okV y) (hz : okV z) (h : CellsAt w b 0 x.k x.p x.q x.s x.r) (h2 : CellsAt w b 5 y.k y.p y.q y.s y.r) (h3 : CellsAt w b 10 z.k z.p z.q z.s z.r) : Env w (some ⟨b, 0, none⟩) 3 cap [x, y, z] :=
  env_of hT rfl (by omega) (all3 hx hy hz) fun j hj => by
    match j, hj with
    | 0, _ => exact h
    | 1, _ => exact h2
    | 2, _ => exact h3
theorem at_new (w : World) (c : Array Value) (t : TypeId) (o : Nat) (k p q : Int) (s : ByteArray) (r : Int) (h0 : c[o]? = some (.int .i64 k)) (h1 : c[o + 1]? = some (.int .i64 p)) (h2 : c[o + 2]? = some (.int .i64 q)) (h3 : c[o + 3]? = some (.string s)) (h4 : c[o + 4]? = some (.int .i64 r)) : CellsAt (w.alloc (.cells c t)) w.heap.size o k p q s r :=
  ⟨(World.cell?_alloc_at c t _ o rfl).trans h0, (World.cell?_alloc_at c t _ (o + 1) rfl).trans h1, (World.cell?_alloc_at c t _ (o + 2) rfl).trans h2, (World.cell?_alloc_at c t _ (o + 3) rfl).trans h3, (World.cell?_alloc_at c t _ (o + 4) rfl).trans h4⟩

theorem aw_itoa0 : Lib.itoa 0 = [48] := by unfold Lib.itoa; rw [if_neg (by omega), Lib.decDigits]; rfl
theorem aw_itoa1 : Lib.itoa 1 = [49] := by unfold Lib.itoa; rw [if_neg (by omega), Lib.decDigits]; rfl
theorem beginA_4 (l : List VV) : beginA 4 l = placesA (wordN 4) l := rfl
theorem beginA_1 (l : List VV) : beginA 1 l = digitsA (wordN 1) l := rfl
theorem aw_v1 : beginA 5 [⟨2, -7, 2, ⟨#[]⟩, 0⟩] = .inl ⟨2, -4, 1, ⟨#[]⟩, 0⟩ := by kernel_rfl
theorem aw_v2 : beginA 4 [⟨2, 1, 3, ⟨#[]⟩, 0⟩, ⟨2, 2, 1, ⟨#[]⟩, 0⟩] = .inl ⟨3, 0, 0, ⟨#[48, 46, 51, 51]⟩, 0⟩ := by
  have h1 : vldB 1 3 = true := by decide +kernel
  have h2 : fixT (1 : Int).natAbs (3 : Int).toNat (2 : Int).toNat = (0, [3, 3]) := by decide +kernel
  have e : fixL 1 3 2 = ([48, 46, 51, 51], 0) := by
    unfold fixL
    rw [h1, h2]
    show (decL false 0 [3, 3], (0 : Int)) = _
    have : decL false 0 [3, 3] = [48, 46, 51, 51] := by
      unfold decL bodyL
      rw [aw_itoa0]
      rfl
    rw [this]
  have e1 : numA (wordN 4) [⟨2, 1, 3, ⟨#[]⟩, 0⟩, ⟨2, 2, 1, ⟨#[]⟩, 0⟩] 1 = .inl (1, 3) := by kernel_rfl
  have e2 : intA (wordN 4) [⟨2, 1, 3, ⟨#[]⟩, 0⟩, ⟨2, 2, 1, ⟨#[]⟩, 0⟩] 2 0 true = .inl 2 := by kernel_rfl
  rw [beginA_4]
  unfold placesA
  rw [e1]
  dsimp only
  rw [e2]
  dsimp only
  rw [e]
  rfl
theorem aw_v3 : beginA 1 [⟨2, 255, 1, ⟨#[]⟩, 0⟩, ⟨2, 16, 1, ⟨#[]⟩, 0⟩] = .inl ⟨3, 0, 0, ⟨#[102, 102]⟩, 0⟩ := by
  have e : baseL 255 16 = ([102, 102], 0) := by
    unfold baseL bText
    rw [if_neg (by omega), if_neg (by omega), show (255 : Int).toNat = 255 from rfl, show (16 : Int).toNat = 16 from rfl, bDigits_big (by omega) (by omega), bDigits_small (by omega)]
    rfl
  have e1 : intA (wordN 1) [⟨2, 255, 1, ⟨#[]⟩, 0⟩, ⟨2, 16, 1, ⟨#[]⟩, 0⟩] 1 0 false = .inl 255 := by kernel_rfl
  have e2 : intA (wordN 1) [⟨2, 255, 1, ⟨#[]⟩, 0⟩, ⟨2, 16, 1, ⟨#[]⟩, 0⟩] 2 10 true = .inl 16 := by kernel_rfl
  rw [beginA_1]
  unfold digitsA
  rw [e1]
  dsimp only
  rw [e2]
  dsimp only
  rw [e]
  rfl
theorem aw_v4 : beginA 6 [⟨2, 1, 1, ⟨#[]⟩, 0⟩, ⟨3, 0, 0, ⟨#[51]⟩, 0⟩, ⟨2, 2, 1, ⟨#[]⟩, 0⟩] = .inl ⟨2, 3, 1, ⟨#[]⟩, 0⟩ := by kernel_rfl
theorem aw_v5 : beginA 10 [⟨3, 0, 0, ⟨#[49]⟩, 0⟩] = .inl ⟨0, 0, 0, ⟨#[]⟩, 0⟩ := by kernel_rfl
theorem aw_v6 : beginA 6 [] = .inr ⟨#[98, 97, 100, 32, 97, 114, 103, 117, 109, 101, 110, 116, 32, 35, 49, 32, 116, 111, 32, 39, 109, 97, 120, 39, 32, 40, 110, 117, 109, 98, 101, 114, 32, 101, 120, 112, 101, 99, 116, 101, 100, 44, 32, 103, 111, 116, 32, 110, 105, 108, 41]⟩ := by
  have e : beginA 6 [] = .inr (badS (wordN 6) (1 : Nat) (gotS 0)) := by kernel_rfl
  rw [e]
  congr 1
  unfold badS
  rw [show ((1 : Nat) : Int) = 1 from rfl, aw_itoa1]
  rfl
theorem aw_v7 : beginA 1 [⟨2, 1, 2, ⟨#[]⟩, 0⟩] = .inr ⟨#[98, 97, 100, 32, 97, 114, 103, 117, 109, 101, 110, 116, 32, 35, 49, 32, 116, 111, 32, 39, 98, 97, 115, 101, 39, 32, 40, 105, 110, 116, 101, 103, 101, 114, 32, 101, 120, 112, 101, 99, 116, 101, 100, 41]⟩ := by
  have e : beginA 1 [⟨2, 1, 2, ⟨#[]⟩, 0⟩] = .inr (badS (wordN 1) (1 : Nat) intS) := by kernel_rfl
  rw [e]
  congr 1
  unfold badS
  rw [show ((1 : Nat) : Int) = 1 from rfl, aw_itoa1]
  rfl
theorem aw_c1 (w : World) (t : TypeId) (hT : Tabs (w.alloc (.cells #[.int .i64 2, .int .i64 (-7), .int .i64 2, .string ⟨#[]⟩, .int .i64 0] t))) :
    Calls Tryz.prog 18 #[.string ⟨#[110, 117, 109, 98, 101, 114, 46, 102, 108, 111, 111, 114]⟩, .slice (some ⟨w.heap.size, 0, none⟩) 1 1] (w.alloc (.cells #[.int .i64 2, .int .i64 (-7), .int .i64 2, .string ⟨#[]⟩, .int .i64 0] t)) fun e w' => e = .returned (.tuple #[vV 2 (-4) 1 ⟨#[]⟩ 0, .bool true]) ∧ Below (w.alloc (.cells #[.int .i64 2, .int .i64 (-7), .int .i64 2, .string ⟨#[]⟩, .int .i64 0] t)).heap.size (w.alloc (.cells #[.int .i64 2, .int .i64 (-7), .int .i64 2, .string ⟨#[]⟩, .int .i64 0] t)) w' := by
  have E : Env (w.alloc (.cells #[.int .i64 2, .int .i64 (-7), .int .i64 2, .string ⟨#[]⟩, .int .i64 0] t)) (some ⟨w.heap.size, 0, none⟩) 1 1 [⟨2, -7, 2, ⟨#[]⟩, 0⟩] := env1 hT ⟨by decide, by decide, by decide⟩ (at_new _ _ _ 0 _ _ _ _ _ rfl rfl rfl rfl rfl)
  have h := result_at E 5 (by omega)
  rw [aw_v1] at h
  exact h

theorem aw_c2 (w : World) (t : TypeId) (hT : Tabs (w.alloc (.cells #[.int .i64 2, .int .i64 1, .int .i64 3, .string ⟨#[]⟩, .int .i64 0, .int .i64 2, .int .i64 2, .int .i64 1, .string ⟨#[]⟩, .int .i64 0] t))) :
    Calls Tryz.prog 18 #[.string ⟨#[110, 117, 109, 98, 101, 114, 46, 102, 105, 120, 101, 100]⟩, .slice (some ⟨w.heap.size, 0, none⟩) 2 2] (w.alloc (.cells #[.int .i64 2, .int .i64 1, .int .i64 3, .string ⟨#[]⟩, .int .i64 0, .int .i64 2, .int .i64 2, .int .i64 1, .string ⟨#[]⟩, .int .i64 0] t)) fun e w' => e = .returned (.tuple #[vV 3 0 0 ⟨#[48, 46, 51, 51]⟩ 0, .bool true]) ∧ Below (w.alloc (.cells #[.int .i64 2, .int .i64 1, .int .i64 3, .string ⟨#[]⟩, .int .i64 0, .int .i64 2, .int .i64 2, .int .i64 1, .string ⟨#[]⟩, .int .i64 0] t)).heap.size (w.alloc (.cells #[.int .i64 2, .int .i64 1, .int .i64 3, .string ⟨#[]⟩, .int .i64 0, .int .i64 2, .int .i64 2, .int .i64 1, .string ⟨#[]⟩, .int .i64 0] t)) w' := by
  have E : Env (w.alloc (.cells #[.int .i64 2, .int .i64 1, .int .i64 3, .string ⟨#[]⟩, .int .i64 0, .int .i64 2, .int .i64 2, .int .i64 1, .string ⟨#[]⟩, .int .i64 0] t)) (some ⟨w.heap.size, 0, none⟩) 2 2 [⟨2, 1, 3, ⟨#[]⟩, 0⟩, ⟨2, 2, 1, ⟨#[]⟩, 0⟩] := env2 hT ⟨by decide, by decide, by decide⟩ ⟨by decide, by decide, by decide⟩ (at_new _ _ _ 0 _ _ _ _ _ rfl rfl rfl rfl rfl) (at_new _ _ _ 5 _ _ _ _ _ rfl rfl rfl rfl rfl)
  have h := result_at E 4 (by omega)
  rw [aw_v2] at h
  exact h

theorem aw_c3 (w : World) (t : TypeId) (hT : Tabs (w.alloc (.cells #[.int .i64 2, .int .i64 255, .int .i64 1, .string ⟨#[]⟩, .int .i64 0, .int .i64 2, .int .i64 16, .int .i64 1, .string ⟨#[]⟩, .int .i64 0] t))) :
    Calls Tryz.prog 18 #[.string ⟨#[110, 117, 109, 98, 101, 114, 46, 98, 97, 115, 101]⟩, .slice (some ⟨w.heap.size, 0, none⟩) 2 2] (w.alloc (.cells #[.int .i64 2, .int .i64 255, .int .i64 1, .string ⟨#[]⟩, .int .i64 0, .int .i64 2, .int .i64 16, .int .i64 1, .string ⟨#[]⟩, .int .i64 0] t)) fun e w' => e = .returned (.tuple #[vV 3 0 0 ⟨#[102, 102]⟩ 0, .bool true]) ∧ Below (w.alloc (.cells #[.int .i64 2, .int .i64 255, .int .i64 1, .string ⟨#[]⟩, .int .i64 0, .int .i64 2, .int .i64 16, .int .i64 1, .string ⟨#[]⟩, .int .i64 0] t)).heap.size (w.alloc (.cells #[.int .i64 2, .int .i64 255, .int .i64 1, .string ⟨#[]⟩, .int .i64 0, .int .i64 2, .int .i64 16, .int .i64 1, .string ⟨#[]⟩, .int .i64 0] t)) w' := by
  have E : Env (w.alloc (.cells #[.int .i64 2, .int .i64 255, .int .i64 1, .string ⟨#[]⟩, .int .i64 0, .int .i64 2, .int .i64 16, .int .i64 1, .string ⟨#[]⟩, .int .i64 0] t)) (some ⟨w.heap.size, 0, none⟩) 2 2 [⟨2, 255, 1, ⟨#[]⟩, 0⟩, ⟨2, 16, 1, ⟨#[]⟩, 0⟩] := env2 hT ⟨by decide, by decide, by decide⟩ ⟨by decide, by decide, by decide⟩ (at_new _ _ _ 0 _ _ _ _ _ rfl rfl rfl rfl rfl) (at_new _ _ _ 5 _ _ _ _ _ rfl rfl rfl rfl rfl)
  have h := result_at E 1 (by omega)
  rw [aw_v3] at h
  exact h

theorem aw_c4 (w : World) (t : TypeId) (hT : Tabs (w.alloc (.cells #[.int .i64 2, .int .i64 1, .int .i64 1, .string ⟨#[]⟩, .int .i64 0, .int .i64 3, .int .i64 0, .int .i64 0, .string ⟨#[51]⟩, .int .i64 0, .int .i64 2, .int .i64 2, .int .i64 1, .string ⟨#[]⟩, .int .i64 0] t))) :
    Calls Tryz.prog 18 #[.string ⟨#[110, 117, 109, 98, 101, 114, 46, 109, 97, 120]⟩, .slice (some ⟨w.heap.size, 0, none⟩) 3 3] (w.alloc (.cells #[.int .i64 2, .int .i64 1, .int .i64 1, .string ⟨#[]⟩, .int .i64 0, .int .i64 3, .int .i64 0, .int .i64 0, .string ⟨#[51]⟩, .int .i64 0, .int .i64 2, .int .i64 2, .int .i64 1, .string ⟨#[]⟩, .int .i64 0] t)) fun e w' => e = .returned (.tuple #[vV 2 3 1 ⟨#[]⟩ 0, .bool true]) ∧ Below (w.alloc (.cells #[.int .i64 2, .int .i64 1, .int .i64 1, .string ⟨#[]⟩, .int .i64 0, .int .i64 3, .int .i64 0, .int .i64 0, .string ⟨#[51]⟩, .int .i64 0, .int .i64 2, .int .i64 2, .int .i64 1, .string ⟨#[]⟩, .int .i64 0] t)).heap.size (w.alloc (.cells #[.int .i64 2, .int .i64 1, .int .i64 1, .string ⟨#[]⟩, .int .i64 0, .int .i64 3, .int .i64 0, .int .i64 0, .string ⟨#[51]⟩, .int .i64 0, .int .i64 2, .int .i64 2, .int .i64 1, .string ⟨#[]⟩, .int .i64 0] t)) w' := by
  have E : Env (w.alloc (.cells #[.int .i64 2, .int .i64 1, .int .i64 1, .string ⟨#[]⟩, .int .i64 0, .int .i64 3, .int .i64 0, .int .i64 0, .string ⟨#[51]⟩, .int .i64 0, .int .i64 2, .int .i64 2, .int .i64 1, .string ⟨#[]⟩, .int .i64 0] t)) (some ⟨w.heap.size, 0, none⟩) 3 3 [⟨2, 1, 1, ⟨#[]⟩, 0⟩, ⟨3, 0, 0, ⟨#[51]⟩, 0⟩, ⟨2, 2, 1, ⟨#[]⟩, 0⟩] := env3 hT ⟨by decide, by decide, by decide⟩ ⟨by decide, by decide, by decide⟩ ⟨by decide, by decide, by decide⟩ (at_new _ _ _ 0 _ _ _ _ _ rfl rfl rfl rfl rfl) (at_new _ _ _ 5 _ _ _ _ _ rfl rfl rfl rfl rfl) (at_new _ _ _ 10 _ _ _ _ _ rfl rfl rfl rfl rfl)
  have h := result_at E 6 (by omega)
  rw [aw_v4] at h
  exact h

theorem aw_c5 (w : World) (t : TypeId) (hT : Tabs (w.alloc (.cells #[.int .i64 3, .int .i64 0, .int .i64 0, .string ⟨#[49]⟩, .int .i64 0] t))) :
    Calls Tryz.prog 18 #[.string ⟨#[110, 117, 109, 98, 101, 114, 46, 116, 121, 112, 101]⟩, .slice (some ⟨w.heap.size, 0, none⟩) 1 1] (w.alloc (.cells #[.int .i64 3, .int .i64 0, .int .i64 0, .string ⟨#[49]⟩, .int .i64 0] t)) fun e w' => e = .returned (.tuple #[vV 0 0 0 ⟨#[]⟩ 0, .bool true]) ∧ Below (w.alloc (.cells #[.int .i64 3, .int .i64 0, .int .i64 0, .string ⟨#[49]⟩, .int .i64 0] t)).heap.size (w.alloc (.cells #[.int .i64 3, .int .i64 0, .int .i64 0, .string ⟨#[49]⟩, .int .i64 0] t)) w' := by
  have E : Env (w.alloc (.cells #[.int .i64 3, .int .i64 0, .int .i64 0, .string ⟨#[49]⟩, .int .i64 0] t)) (some ⟨w.heap.size, 0, none⟩) 1 1 [⟨3, 0, 0, ⟨#[49]⟩, 0⟩] := env1 hT ⟨by decide, by decide, by decide⟩ (at_new _ _ _ 0 _ _ _ _ _ rfl rfl rfl rfl rfl)
  have h := result_at E 10 (by omega)
  rw [aw_v5] at h
  exact h

theorem aw_c7 (w : World) (t : TypeId) (hT : Tabs (w.alloc (.cells #[.int .i64 2, .int .i64 1, .int .i64 2, .string ⟨#[]⟩, .int .i64 0] t))) :
    Calls Tryz.prog 12 #[.string ⟨#[110, 117, 109, 98, 101, 114, 46, 98, 97, 115, 101]⟩, .slice (some ⟨w.heap.size, 0, none⟩) 1 1] (w.alloc (.cells #[.int .i64 2, .int .i64 1, .int .i64 2, .string ⟨#[]⟩, .int .i64 0] t)) fun e w' => e = .returned (.string ⟨#[98, 97, 100, 32, 97, 114, 103, 117, 109, 101, 110, 116, 32, 35, 49, 32, 116, 111, 32, 39, 98, 97, 115, 101, 39, 32, 40, 105, 110, 116, 101, 103, 101, 114, 32, 101, 120, 112, 101, 99, 116, 101, 100, 41]⟩) ∧ Below (w.alloc (.cells #[.int .i64 2, .int .i64 1, .int .i64 2, .string ⟨#[]⟩, .int .i64 0] t)).heap.size (w.alloc (.cells #[.int .i64 2, .int .i64 1, .int .i64 2, .string ⟨#[]⟩, .int .i64 0] t)) w' := by
  have E : Env (w.alloc (.cells #[.int .i64 2, .int .i64 1, .int .i64 2, .string ⟨#[]⟩, .int .i64 0] t)) (some ⟨w.heap.size, 0, none⟩) 1 1 [⟨2, 1, 2, ⟨#[]⟩, 0⟩] := env1 hT ⟨by decide, by decide, by decide⟩ (at_new _ _ _ 0 _ _ _ _ _ rfl rfl rfl rfl rfl)
  exact message_at E 1 (by omega) aw_v7

theorem aw_c6 (w : World) (hT : Tabs w) : Calls Tryz.prog 12 #[.string ⟨#[110, 117, 109, 98, 101, 114, 46, 109, 97, 120]⟩, .slice none 0 0] w fun e w' => e = .returned (.string ⟨#[98, 97, 100, 32, 97, 114, 103, 117, 109, 101, 110, 116, 32, 35, 49, 32, 116, 111, 32, 39, 109, 97, 120, 39, 32, 40, 110, 117, 109, 98, 101, 114, 32, 101, 120, 112, 101, 99, 116, 101, 100, 44, 32, 103, 111, 116, 32, 110, 105, 108, 41]⟩) ∧ Below w.heap.size w w' :=
  message_at (env0 hT) 6 (by omega) aw_v6
theorem aw_c8 (w : World) : Calls Tryz.prog 12 #[.string ⟨#[120]⟩, .slice none 0 0] w fun e w' => e = .returned (.string ⟨#[110, 111, 32, 115, 117, 99, 104, 32, 102, 117, 110, 99, 116, 105, 111, 110]⟩) ∧ Below w.heap.size w w' := by
  show Calls _ _ _ w fun e w' => e = .returned (.string noneS) ∧ Below w.heap.size w w'
  refine message_fail _ _ _ _ 3 0 0 noneS 0 w fun hp w' hb => begin_none hp _ _ _ _ w' ?_
  intro j hj
  rw [toList_eq]
  have : ∀ j : Fin 11, ((⟨#[120]⟩ : ByteArray).data.toList == ((⟨#[110, 117, 109, 98, 101, 114, 46]⟩ : ByteArray) ++ wordN j.val).data.toList) = false := by decide +kernel
  exact this ⟨j, hj⟩
end Go.Proofs.YtfclmnglckikbaaGreatDoor
