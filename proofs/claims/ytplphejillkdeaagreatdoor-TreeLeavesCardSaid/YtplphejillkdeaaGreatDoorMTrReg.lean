/- Regions that draw their order, whose calls wait for all that stands ahead of them and for which all else waits: one walk in the order of the text. No program. -/
import Derived.Test.YtplphejillkdeaaGreatDoorMMem
import Derived.OrdersHeld
namespace Go.Proofs.YtplphejillkdeaaGreatDoor
open Go.RowKit
set_option linter.unusedVariables false

/-- A call of a Go function. -/
def isC (o : Oper) : Bool := match o.op with
  | .call c => match c.callee with
    | .value _ => true
    | _ => false
  | _ => false
def barB (ops : Array Oper) (i : Nat) : Bool := match ops[i]? with
  | some o => isC o
  | none => false
/-- The walk in the order of the text: what is no call yields its value in every world that meets S; behind a call another S serves. -/
def wpLex (P : Program) (ops : Array Oper) (Q : Exit → Act → World → Prop) : List Oper → (World → Prop) → Act → World → Prop
  | [], _, a, w => Q .normal a w
  | o :: rest, S, a, w =>
    if Region.wanted o (yielded ops a.tmps) = true then
      (if isC o = true then o.wp P a w (fun a' w' => ∃ S' : World → Prop, S' w' ∧ wpLex P ops Q rest S' a' w') Q else ∃ v, (∀ w', S w' → (execOp a.eval o).run P w' = .ok (.value v) w') ∧ wpLex P ops Q rest S (a.put o.dst v) w)
    else wpLex P ops Q rest S (a.put o.dst undef) w
/-- Operation i must have come before operation c may come. -/
def ancB (md : Region.Mode) (ops : Array Oper) : Nat → Nat → Nat → Bool
  | 0, _, _ => false
  | f + 1, c, i => match ops[c]? with
    | some o => o.after.any fun e => Region.binds md e && (e.on == i || ancB md ops f e.on i)
    | none => false
/-- The text's order is one that may be drawn, no operation looks at another's place, a call comes up alone and waits for what stands ahead of it. -/
def lexBar (md : Region.Mode) (ops : Array Oper) : Nat → Nat → Array Bool → Bool
  | 0, _, listed => (Region.ready md ops listed).isEmpty
  | fuel + 1, k, listed => (Region.ready md ops listed).contains k && Region.free md ops listed k &&
    (if barB ops k then Region.ready md ops listed == [k] else (List.range ops.size).all fun j => !barB ops j || listed.getD j true || ancB md ops ops.size j k) &&
    lexBar md ops fuel (k + 1) (listed.setIfInBounds k true)
section
variable {P : Program} {ops : Array Oper} {Q : Exit → Act → World → Prop} {md : Region.Mode}
/-- What has come has come behind what it waits for. -/
def Closed (md : Region.Mode) (ops : Array Oper) (listed : Array Bool) : Prop := ∀ u o, ops[u]? = some o → listed.getD u false = true → ∀ e ∈ o.after, Region.binds md e = true → listed.getD e.on false = true
theorem Closed.add {listed : Array Bool} (h : Closed md ops listed) {j : Nat} (hj : j ∈ Region.ready md ops listed) : Closed md ops (listed.setIfInBounds j true) := by
  intro u o ho hu e he hb
  by_cases huj : u = j
  · subst huj
    obtain ⟨_, o', ho', hall⟩ := mem_ready.1 hj
    rw [ho] at ho'
    injection ho' with ho'
    subst ho'
    exact getD_set_true (hall e he hb)
  · rw [getD_set_ne false (Ne.symm huj)] at hu
    exact getD_set_true (h u o ho hu e he hb)
theorem anc_listed {listed : Array Bool} (h : Closed md ops listed) : ∀ (f c i : Nat), ancB md ops f c i = true → (∀ o, ops[c]? = some o → ∀ e ∈ o.after, Region.binds md e = true → listed.getD e.on false = true) → listed.getD i false = true
  | 0, _, _, ha, _ => by cases ha
  | f + 1, c, i, ha, hc => by
    unfold ancB at ha
    cases ho : ops[c]? with
    | none => rw [ho] at ha; cases ha
    | some o =>
      rw [ho] at ha
      obtain ⟨e, he, hb⟩ := Array.any_eq_true'.1 ha
      simp only [Bool.and_eq_true, Bool.or_eq_true, beq_iff_eq] at hb
      have hl := hc o ho e he hb.1
      rcases hb.2 with h1 | h1
      · rw [← h1]; exact hl
      · exact anc_listed h f e.on i h1 (fun o' ho' e' he' hb' => h e.on o' ho' hl e' he' hb')
/-- Whatever order is picked from here on; S holds behind all but calls. -/
def wpAnyG (P : Program) (md : Region.Mode) (ops : Array Oper) (Q : Exit → Act → World → Prop) (S : World → Prop) : Nat → Array Bool → Act → World → Prop
  | 0, listed, a, w => Region.ready md ops listed = [] ∧ Q .normal a w
  | fuel + 1, listed, a, w =>
    (Region.ready md ops listed = [] → Q .normal a w) ∧
    ∀ i ∈ Region.ready md ops listed, wpOp P ops Q i (fun a' w' => if barB ops i = true then wpAny P md ops Q fuel (listed.setIfInBounds i true) a' w' else S w' ∧ wpAnyG P md ops Q S fuel (listed.setIfInBounds i true) a' w') a w
theorem any_of_G {S : World → Prop} : ∀ (fuel : Nat) (listed : Array Bool) (a : Act) (w : World), wpAnyG P md ops Q S fuel listed a w → wpAny P md ops Q fuel listed a w
  | 0, _, _, _, h => h
  | fuel + 1, _, _, _, h => ⟨h.1, fun i hi => wpOp_mono (fun a' w' h' => by
      split at h'
      · exact h'
      · exact any_of_G fuel _ a' w' h'.2) (h.2 i hi)⟩
theorem anyG_first {S : World → Prop} {i : Nat} {oi : Oper} {v : Value} (hi : ops[i]? = some oi) (hb : barB ops i = false) (hsel : ∀ (j : Nat) (o : Oper) cs b, ops[j]? = some o → o.op ≠ .select cs b)
    (hQ : ∀ c a w, Q (.panic c) (a.put oi.dst v) w → Q (.panic c) a w) : ∀ (fuel : Nat) (listed : Array Bool) (a : Act) (w : World), Closed md ops listed →
      (∀ j oj, ops[j]? = some oj → j ≠ i → listed.getD j true = false → (∀ e ∈ oj.after, Region.binds md e = true → e.on ≠ i) → oi.apart ops oj = true) →
      (∀ j, barB ops j = true → listed.getD j true = false → ancB md ops ops.size j i = true) →
      i ∈ Region.ready md ops listed → YieldsIf P ops S oi v a → S w →
      wpAnyG P md ops Q S fuel (listed.setIfInBounds i true) (a.put oi.dst v) w → wpAnyG P md ops Q S (fuel + 1) listed a w := by
  intro fuel
  induction fuel with
  | zero =>
    intro listed a w _ _ _ hr hy hS H
    refine ⟨fun h => (by rw [h] at hr; cases hr), fun j hj => ?_⟩
    by_cases hji : j = i
    · subst hji
      refine hy.wpOp hi hS ?_
      rw [if_neg (by simp [hb])]
      exact ⟨hS, H⟩
    · have h2 := ready_mono hj hji
      rw [H.1] at h2
      cases h2
  | succ fuel ih =>
    intro listed a w hcl hfree hanc hr hy hS H
    refine ⟨fun h => (by rw [h] at hr; cases hr), fun j hj => ?_⟩
    by_cases hji : j = i
    · subst hji
      refine hy.wpOp hi hS ?_
      rw [if_neg (by simp [hb])]
      exact ⟨hS, H⟩
    · obtain ⟨hjun, oj, hoj, hall⟩ := mem_ready.1 hj
      have hun := (mem_ready.1 hr).1
      have hiF : listed.getD i false = true → False := fun h => by
        rcases Nat.lt_or_ge i listed.size with h' | h'
        · simp [h'] at hun h; rw [hun] at h; cases h
        · simp [Array.getElem?_eq_none h'] at h
      have hbj : barB ops j = false := by
        cases hbb : barB ops j with
        | false => rfl
        | true => exact (hiF (anc_listed hcl _ j i (hanc j hbb hjun) (fun o ho e he hb => by rw [hoj] at ho; injection ho with ho; subst ho; exact hall e he hb))).elim
      have h1 := H.2 j (ready_mono hj hji)
      have hnot : ∀ e ∈ oj.after, Region.binds md e = true → e.on ≠ i := fun e he hb heq => hiF (heq ▸ hall e he hb)
      have h2 := wpOp_putIf (S := S) hoj (hfree j oj hoj hji hjun hnot) (fun cs b => hsel i oi cs b hi) (fun cs b => hsel j oj cs b hoj) hQ hy h1
      refine wpOp_mono (fun a' w' h3 => ?_) h2
      obtain ⟨h3y, h3⟩ := h3
      rw [if_neg (by simp [hbj])] at h3 ⊢
      refine ⟨h3.1, ih (listed.setIfInBounds j true) a' w' (hcl.add hj) ?_ ?_ (ready_mono hr (Ne.symm hji)) h3y h3.1 ?_⟩
      · intro k ok hk hki hkun hno
        refine hfree k ok hk hki ?_ hno
        by_cases hjk : j = k
        · subst hjk; exact hjun
        · rw [getD_set_ne true hjk] at hkun; exact hkun
      · intro k hk hkun
        refine hanc k hk ?_
        by_cases hjk : j = k
        · subst hjk; exact hjun
        · rw [getD_set_ne true hjk] at hkun; exact hkun
      · rw [Array.setIfInBounds_comm _ _ hji]
        exact h3.2
theorem anyG_lex (hs : Region.noSelect ops = true) (hQ : ∀ c a d v w, Q (.panic c) (Act.put a d v) w → Q (.panic c) a w) : ∀ (l : List Oper) (k : Nat) (S : World → Prop) (listed : Array Bool) (a : Act) (w : World), (∀ j, l[j]? = ops[k + j]?) → Closed md ops listed →
    lexBar md ops l.length k listed = true → S w → wpLex P ops Q l S a w → wpAnyG P md ops Q S l.length listed a w
  | [], _, _, _, _, _, _, _, hB, _, h => ⟨by simpa [lexBar] using hB, h⟩
  | o :: l, k, S, listed, a, w, hl, hcl, hB, hS, h => by
    have h0 : ops[k]? = some o := by simpa using (hl 0).symm
    have hl' : ∀ j, l[j]? = ops[k + 1 + j]? := fun j => by have := hl (j + 1); simpa [Nat.add_assoc, Nat.add_comm 1 j] using this
    have hbk : barB ops k = isC o := by unfold barB; rw [h0]
    simp only [List.length_cons, lexBar, Bool.and_eq_true] at hB
    obtain ⟨⟨⟨hr, hf⟩, hb⟩, hB'⟩ := hB
    have hr' : k ∈ Region.ready md ops listed := by simpa using hr
    unfold wpLex at h
    have anc : isC o = false → ∀ j, barB ops j = true → listed.getD j true = false → ancB md ops ops.size j k = true := fun hc j hj hun => by
      rw [hbk, hc, if_neg (by simp)] at hb
      have hjs : j < ops.size := by
        rcases Nat.lt_or_ge j ops.size with h' | h'
        · exact h'
        · unfold barB at hj; rw [Array.getElem?_eq_none h'] at hj; cases hj
      have := List.all_eq_true.1 hb j (List.mem_range.2 hjs)
      simpa [hj, hun] using this
    by_cases hw : Region.wanted o (yielded ops a.tmps) = true
    · rw [if_pos hw] at h
      by_cases hc : isC o = true
      · rw [if_pos hc] at h
        rw [hbk, if_pos hc] at hb
        have hr1 : Region.ready md ops listed = [k] := by simpa using hb
        refine ⟨fun h => (by rw [hr1] at h; cases h), fun i hi => ?_⟩
        rw [hr1] at hi
        obtain rfl : i = k := by simpa using hi
        unfold wpOp
        rw [h0]
        show if Region.wanted o (yielded ops a.tmps) = true then _ else _
        rw [if_pos hw]
        refine .inl (Oper.wp_mono (fun a' w' h' => ?_) h)
        obtain ⟨S', hS', h'⟩ := h'
        rw [if_pos (by rw [hbk]; exact hc)]
        exact any_of_G _ _ _ _ (anyG_lex hs hQ l (i + 1) S' _ a' w' hl' (hcl.add hr') hB' hS' h')
      · rw [if_neg hc] at h
        have hc' : isC o = false := by simpa using hc
        obtain ⟨v, hv, h⟩ := h
        exact anyG_first h0 (by rw [hbk]; exact hc') (Region.noSelect_spec hs) (fun c a w h => hQ c a _ _ w h) l.length listed a w hcl (Region.free_spec h0 hf) (anc hc') hr' (.inl ⟨hw, hv⟩) hS (anyG_lex hs hQ l (k + 1) S _ _ w hl' (hcl.add hr') hB' hS h)
    · rw [if_neg hw] at h
      by_cases hc : isC o = true
      · rw [hbk, if_pos hc] at hb
        have hr1 : Region.ready md ops listed = [k] := by simpa using hb
        refine ⟨fun h => (by rw [hr1] at h; cases h), fun i hi => ?_⟩
        rw [hr1] at hi
        obtain rfl : i = k := by simpa using hi
        unfold wpOp
        rw [h0]
        show if Region.wanted o (yielded ops a.tmps) = true then _ else _
        rw [if_neg hw]
        dsimp only
        rw [if_pos (by rw [hbk]; exact hc)]
        exact any_of_G _ _ _ _ (anyG_lex hs hQ l (i + 1) S _ _ w hl' (hcl.add hr') hB' hS h)
      · have hc' : isC o = false := by simpa using hc
        exact anyG_first h0 (by rw [hbk]; exact hc') (Region.noSelect_spec hs) (fun c a w h => hQ c a _ _ w h) l.length listed a w hcl (Region.free_spec h0 hf) (anc hc') hr' (.inr ⟨by simpa using hw, rfl⟩) hS (anyG_lex hs hQ l (k + 1) S _ _ w hl' (hcl.add hr') hB' hS h)
theorem wp_region_lex {id : Nat} {a : Act} {w : World} {l : List Oper} (S : World → Prop) (hm : P.follows .mixedOrders = true) (hB : (Region.noSelect l.toArray && lexBar .any l.toArray l.length 0 (Array.replicate l.length false)) = true)
    (hQ : ∀ c a d v w, Q (.panic c) (Act.put a d v) w → Q (.panic c) a w) (hS : S w.drew) (h : wpLex P l.toArray Q l S a w.drew) : (Code.region id l.toArray true).wp P Q a w := by
  simp only [Bool.and_eq_true] at hB
  refine wp_region_any hm ?_
  have hcl : Closed .any l.toArray (Array.replicate l.length false) := fun u o _ hu => by
    rcases Nat.lt_or_ge u l.length with h' | h'
    · simp [h'] at hu
    · simp [Array.getElem?_eq_none (show (Array.replicate l.length false).size ≤ u by simpa using h')] at hu
  have := any_of_G _ _ _ _ (anyG_lex (md := .any) (P := P) (Q := Q) hB.1 hQ l 0 S (Array.replicate l.length false) a w.drew (by simp) hcl hB.2 hS h)
  simpa using this
/-- The steps of the walk. -/
theorem lex_nil {S : World → Prop} {a : Act} {w : World} (h : Q .normal a w) : wpLex P ops Q [] S a w := h
theorem lex_no {S : World → Prop} {o : Oper} {l : List Oper} {a : Act} {w : World} (hw : Region.wanted o (yielded ops a.tmps) = false) (h : wpLex P ops Q l S (a.put o.dst undef) w) : wpLex P ops Q (o :: l) S a w := by
  unfold wpLex; rw [if_neg (by simp [hw])]; exact h
theorem lex_rd {S : World → Prop} {o : Oper} {l : List Oper} {a : Act} {w : World} (hw : Region.wanted o (yielded ops a.tmps) = true) (hc : isC o = false) (h : ∃ v, (∀ w', S w' → (execOp a.eval o).run P w' = .ok (.value v) w') ∧ wpLex P ops Q l S (a.put o.dst v) w) : wpLex P ops Q (o :: l) S a w := by
  unfold wpLex; rw [if_pos hw, if_neg (by simp [hc])]; exact h
theorem lex_call {S : World → Prop} {o : Oper} {l : List Oper} {a : Act} {w : World} (hw : Region.wanted o (yielded ops a.tmps) = true) (hc : isC o = true) (h : ∀ K : Act → World → Prop, (∀ (S' : World → Prop) a w, S' w → wpLex P ops Q l S' a w → K a w) → o.wp P a w K Q) : wpLex P ops Q (o :: l) S a w := by
  unfold wpLex; rw [if_pos hw, if_pos hc]; exact h _ fun S' a w hS h => ⟨S', hS, h⟩
end
attribute [irreducible] wpLex
end Go.Proofs.YtplphejillkdeaaGreatDoor
