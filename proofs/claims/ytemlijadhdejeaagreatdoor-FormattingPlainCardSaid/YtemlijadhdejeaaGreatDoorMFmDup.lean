/- The doubled percent signs: what ReplaceAll hands back, and what it prints. -/
import Derived.Test.YtemlijadhdejeaaGreatDoorMFmLawP
import Derived.Test.YtemlijadhdejeaaGreatDoorMFmWB
import Derived.Test.YtemlijadhdejeaaGreatDoorShelf
import Derived.Shelf.Strings.SplitShaped
import Derived.Lib.SplitLaws
import Derived.Handed
namespace Go.Proofs.YtemlijadhdejeaaGreatDoor
open Go.RowKit Go.Instr Go.Shelf
set_option linter.unusedVariables false

theorem idx_other (c : UInt8) (l : List UInt8) (h : c.toNat ≠ 37) : Lib.index (c :: l) [37] = if Lib.index l [37] == -1 then -1 else Lib.index l [37] + 1 := by
  have h0 : List.isPrefixOf [37] (c :: l) = false := by
    have : ¬ (37 : UInt8) = c := fun e => h (by rw [← e]; rfl)
    simp [List.isPrefixOf, this]
  conv => lhs; unfold Lib.index
  rw [h0]
  rfl
theorem idx_here (l : List UInt8) : Lib.index (37 :: l) [37] = (0 : Nat) := by
  unfold Lib.index
  rfl
theorem cnt_other (c : UInt8) (l : List UInt8) (h : c.toNat ≠ 37) : Lib.count (c :: l) [37] = Lib.count l [37] := by
  have hi := idx_other c l h
  have hge := Lib.index_ge l [37]
  by_cases hm : Lib.index l [37] = -1
  · rw [hm] at hi
    rw [Lib.count_miss hm, Lib.count_miss hi]
  · obtain ⟨i, e⟩ : ∃ i : Nat, Lib.index l [37] = i := ⟨(Lib.index l [37]).toNat, by omega⟩
    have hb : (Lib.index l [37] == -1) = false := by rw [beq_eq_false_iff_ne]; exact hm
    rw [hb, if_neg (by simp), e] at hi
    have hi2 : Lib.index (c :: l) [37] = ((i + 1 : Nat) : Int) := by rw [hi]; rfl
    rw [Lib.count_hit (by simp) e, Lib.count_hit (by simp) hi2]
    rfl
theorem repK_other (c : UInt8) (l : List UInt8) (k : Nat) (h : c.toNat ≠ 37) : Lib.replaceK [37] [37, 37] k (c :: l) = c :: Lib.replaceK [37] [37, 37] k l := by
  cases k with
  | zero => rfl
  | succ k =>
    have hi := idx_other c l h
    have hge := Lib.index_ge l [37]
    by_cases hm : Lib.index l [37] = -1
    · rw [hm] at hi
      have hi' : Lib.index (c :: l) [37] = -1 := hi
      rw [Lib.replaceK, Lib.replaceK, hm, hi']
      rfl
    · obtain ⟨i, e⟩ : ∃ i : Nat, Lib.index l [37] = i := ⟨(Lib.index l [37]).toNat, by omega⟩
      have hb : (Lib.index l [37] == -1) = false := by rw [beq_eq_false_iff_ne]; exact hm
      rw [hb, if_neg (by simp), e] at hi
      have hi2 : Lib.index (c :: l) [37] = ((i + 1 : Nat) : Int) := by rw [hi]; rfl
      rw [Lib.replaceK_hit _ _ _ _ _ e, Lib.replaceK_hit _ _ _ _ _ hi2]
      rfl
theorem rep_dup : ∀ l : List UInt8, Lib.replaceK [37] [37, 37] (Lib.count l [37]) l = dupL l
  | [] => rfl
  | c :: l => by
    rw [dupL_cons]
    by_cases h : c.toNat = 37
    · obtain rfl : c = 37 := UInt8.toNat_inj.1 h
      rw [Lib.count_hit (by simp) (idx_here l), Nat.add_comm 1, Lib.replaceK_hit _ _ _ _ _ (idx_here l), if_pos h]
      show [] ++ [37, 37] ++ Lib.replaceK [37] [37, 37] (Lib.count l [37]) l = _
      rw [rep_dup l]
      rfl
    · rw [cnt_other c l h, repK_other c l _ h, rep_dup l, if_neg h]
      rfl
theorem repAll_dup (l : List UInt8) : Lib.replaceAll l [37] [37, 37] = dupL l := by
  unfold Lib.replaceAll Lib.replace Lib.replaceNum
  rw [if_neg (by decide), if_pos (.inl (by decide))]
  exact rep_dup l
theorem dup_len : ∀ l : List UInt8, (dupL l).length ≤ 2 * l.length
  | [] => Nat.le_refl _
  | c :: l => by
    have := dup_len l
    rw [dupL_cons]
    split <;> simp <;> omega
theorem fmtR_dup (l : List UInt8) (hl : l.length ≤ 4096) (a : List VV) : fmtR (pcsT (dupL l) [] []) a = (l, 0, 0) := by
  have he := evs_dup l
  have hp : pcsT (dupL l) [] [] = some (grp (l.map Ev.ch) []) := by unfold pcsT; rw [he]; rfl
  rw [hp, fmtR_grp he, runE_chs]
  show endF (l, 0, 0) = _
  exact if_neg (fun h => by have h2 : 4096 < l.length := h.2; omega)
theorem extraA : Builder.Extra Tryz.prog Tryz.laysM155_ren where
  sizeBuilder := by kernel_rfl
  liesBuilder := by kernel_rfl
  t5 := Tryz.underlying5
  a5 := Tryz.isAgg5
  z5 := Tryz.sizeOf5
  v5 := Tryz.zeroValue5
  infoByte := by kernel_rfl
  cellsByte := by kernel_rfl
  sizeByte := by kernel_rfl
  neB5 := by decide
theorem dup_any (s : ByteArray) (w : World) (hS : w.ShapedOpen Tryz.prog) (hs : s.size ≤ 100000) :
    Calls Tryz.prog 25 #[.string s, .string ⟨#[37]⟩, .string ⟨#[37, 37]⟩] w fun e w' => e = .returned (.string (mkS (dupL s.data.toList))) ∧ Below w.heap.size w w' := by
  have hc : Lib.countB s ⟨#[37]⟩ ≤ s.size := Lib.countB_le ⟨#[37]⟩ (by decide) s.size s (Nat.le_refl _)
  have h := Any.strings_ReplaceAll_shaped Tryz.laysM155 extraA s ⟨#[37]⟩ ⟨#[37, 37]⟩ w hS (by omega) (by decide) (by
    have : (⟨#[37, 37]⟩ : ByteArray).size = 2 := rfl
    rw [this]; omega)
  refine h.mono ?_
  rintro e w' ⟨he, hb⟩
  refine ⟨?_, hb⟩
  rw [he]
  exact congrArg (fun x => Ending.returned (.string (mkS x))) (repAll_dup _)

/-- A statement of change out of a contract that is told that the first world has the program's shape. -/
theorem handed_open {H : Type} {enc : TypeId × Value → H} {a : Assume} {C : Checked} {os : Os} {f : FuncId} {fn : Func} {s : ChangeSpec} {conds : List PathCond} {apart fresh handsOn again : Bool} {X : World → Array Value → Prop}
    (hX : ∀ (w w' : World) (args : Array Value), w.heap = w'.heap → X w args → X w' args) (own : ownKnob C.prog.godebug = none) (started : os.Started) (noInit : C.prog.inits.idxOf? f = none) (hfn : C.prog.funcs[f]? = some fn)
    (witness : ∃ (w : World) (tape : Tape) (i : Input), w.os = os ∧ (w.forCall tape i).Shaped C.prog ∧ i.vars = [] ∧ Input.okWide C.prog (w.forCall tape i) .any w.heap.size f i ∧
      ((s.pre enc C.prog fn conds apart (w.forCall tape i).memory i.args ∧ X (w.forCall tape i).memory i.args) ∧ sizedMet enc C.prog fn (OpenSpec.ofChange s) apart (w.forCall tape i).memory i.args) ∧ a.holds C.prog (lone (Frame.enter C.prog f i.args .normal) [] (w.forCall tape i)))
    (contract : ∀ (W : World) (base : Nat) (args : Array Value) (ds gs : List (DataW H)) (before : List MemPlace), W.ShapedOpen C.prog →
      (∀ (j : Nat) t v, fn.params[j]? = some t → args[j]? = some v → Value.okWide C.prog W .any base t v) →
      DataW.Whole enc C.prog fn.params.toList s.vars apart W args.toList ds gs before → conds.all (PathCond.test C.prog ⟨fn.params.toList, ds, s.plain.varTypes C.prog, gs⟩) = true → X W args →
      Calls C.prog f args W fun e W' => ∃ v, e = .returned v ∧ s.post enc C.prog fn apart fresh handsOn again W args v W') :
    ReturnsInHanded a C os f .any (fun w args => (s.pre enc C.prog fn conds apart w args ∧ X w args) ∧ sizedMet enc C.prog fn (OpenSpec.ofChange s) apart w args) (s.post enc C.prog fn apart fresh handsOn again) := by
  refine returnsInHanded_of_calls own started noInit witness fun w tape i _ hopen _ hok hpre _ => ?_
  obtain ⟨_, _, _, fn', hfn', _, _, _, _, hval⟩ := hok
  obtain rfl : fn' = fn := Option.some.inj (hfn'.symm.trans hfn)
  obtain ⟨⟨⟨ds, gs, before, hw, hc⟩, hx⟩, -⟩ := hpre
  have hw' := DataW.Whole.of_heap (w' := w.forCall tape i) (by rfl) hw
  refine (contract (w.forCall tape i) w.heap.size i.args ds gs before hopen hval hw' hc (hX _ _ _ (by rfl) hx)).mono ?_
  rintro e W' ⟨v, rfl, hp⟩
  exact ChangeSpec.post_blind hp
end Go.Proofs.YtemlijadhdejeaaGreatDoor
