/- strings.Builder, strings.Repeat, strings.ToUpper, by the library's contracts. -/
import Derived.Test.YtemlijadhdejeaaGreatDoorMOwn
import Derived.Laws.AppendOwn
import Derived.Test.YtemlijadhdejeaaGreatDoorMFmPlain
import Derived.Test.YtemlijadhdejeaaGreatDoorMFmA
namespace Go.Proofs.YtemlijadhdejeaaGreatDoor
open Go.RowKit Go.Instr Go.Shelf
set_option linter.unusedVariables false

theorem extraU : Builder.Extra Tryz.prog Tryz.lays158_ren where
  sizeBuilder := by kernel_rfl
  liesBuilder := by kernel_rfl
  t5 := Tryz.underlying5
  a5 := Tryz.isAgg5
  z5 := Tryz.sizeOf5
  v5 := Tryz.zeroValue5
  infoByte := by kernel_rfl
  cellsByte := by kernel_rfl
  sizeByte := by kernel_rfl
  neB5 := by decide
theorem extraR : Builder.Extra Tryz.prog Tryz.lays105_ren where
  sizeBuilder := by kernel_rfl
  liesBuilder := by kernel_rfl
  t5 := Tryz.underlying5
  a5 := Tryz.isAgg5
  z5 := Tryz.sizeOf5
  v5 := Tryz.zeroValue5
  infoByte := by kernel_rfl
  cellsByte := by kernel_rfl
  sizeByte := by kernel_rfl
  neB5 := by decide
theorem repeatL_one_byte (c : UInt8) (n : Nat) : Lib.repeatL [c] n = List.replicate n c := by
  induction n with
  | zero => rfl
  | succ n ih => rw [Lib.repeatL, ih, List.replicate_succ]; rfl
theorem rep_any (c : UInt8) (n : Nat) (k : Int) (hk : k = n) (hn : n ≤ 1000000) (w : World) :
    Calls Tryz.prog 20 #[.string ⟨#[c]⟩, .int .i64 k] w fun e w' => e = .returned (.string (mkS (List.replicate n c))) ∧ Below w.heap.size w w' := by
  have h := Any.strings_Repeat Tryz.lays105 extraR ⟨#[c]⟩ n w (by omega) (by rw [show (ByteArray.mk #[c]).size = 1 from rfl]; omega)
  rw [show (ByteArray.mk #[c]).data.toList = [c] from rfl, repeatL_one_byte] at h
  subst hk
  exact h
theorem upper_any (s : ByteArray) (w : World) (hs : s.size ≤ 1000000) (ha : ∀ c ∈ s.data.toList, c.toNat < 128) :
    Calls Tryz.prog 79 #[.string s] w fun e w' => e = .returned (.string (mkS (Lib.toUpperA s.data.toList))) ∧ Below w.heap.size w w' :=
  Any.strings_ToUpper_ascii Tryz.lays158 extraU s w (by omega) (fun j b h => ha b (List.mem_of_getElem? h))

/-- The builder at block B holds the bytes l; what lay below B in W lies as it lay. -/
def Bd (W : World) (B : Nat) (l : List UInt8) (w : World) : Prop := Lib.IsBuilder 65 5 B B (u8s l) w ∧ Below B W w ∧ B ≤ w.heap.size
/-- .. one that has been written. -/
def Bu (W : World) (B : Nat) (l : List UInt8) (w : World) : Prop := Lib.BuilderAt 65 5 B B (.pointer (some ⟨B, 0, none⟩)) (u8s l) w ∧ Below B W w ∧ B ≤ w.heap.size
theorem Bu.bd {W w : World} {B : Nat} {l : List UInt8} (h : Bu W B l w) : Bd W B l w := ⟨.inr h.1, h.2⟩
theorem builderAt_later {T e : TypeId} {B b : Nat} {p : Value} {bs : List Value} {w w' : World} (h : Lib.BuilderAt T e B b p bs w) (hb : Below w.heap.size w w') : Lib.BuilderAt T e B b p bs w' := by
  have hlt := h.lt
  obtain ⟨h0, v, h1, h2, h3⟩ := h
  exact ⟨h0, v, (hb.block b hlt).trans h1, ownsRow_later h2 hb, h3⟩
theorem Bd.later {W w w' : World} {B : Nat} {l : List UInt8} (h : Bd W B l w) (hb : Below w.heap.size w w') : Bd W B l w' :=
  ⟨h.1.elim (fun h => .inl (builderAt_later h hb)) (fun h => .inr (builderAt_later h hb)), h.2.1.trans (hb.mono h.2.2), Nat.le_trans h.2.2 hb.size⟩
theorem Bu.later {W w w' : World} {B : Nat} {l : List UInt8} (h : Bu W B l w) (hb : Below w.heap.size w w') : Bu W B l w' :=
  ⟨builderAt_later h.1 hb, h.2.1.trans (hb.mono h.2.2), Nat.le_trans h.2.2 hb.size⟩
theorem Bd.alloc {W w : World} {B : Nat} {l : List UInt8} (h : Bd W B l w) (o : Obj) : Bd W B l (w.alloc o) := h.later ((Below.refl _ _).alloc (Nat.le_refl _) o)
theorem Bu.alloc {W w : World} {B : Nat} {l : List UInt8} (h : Bu W B l w) (o : Obj) : Bu W B l (w.alloc o) := h.later ((Below.refl _ _).alloc (Nat.le_refl _) o)
theorem Bd.drew {W w : World} {B : Nat} {l : List UInt8} (h : Bd W B l w) : Bd W B l w.drew := h.later (Below.refl _ _).drew
theorem Bd.drewN {W w : World} {B : Nat} {l : List UInt8} (h : Bd W B l w) (n : Nat) : Bd W B l (w.drewN n) := h.later (below_drewN (Below.refl _ _) n)
theorem Bd.lt {W w : World} {B : Nat} {l : List UInt8} (h : Bd W B l w) : B < w.heap.size := h.1.elim (fun h => h.lt) (fun h => h.lt)
theorem Bd.eq {W w : World} {B : Nat} {l m : List UInt8} (h : Bd W B l w) (e : l = m) : Bd W B m w := by rw [← e]; exact h
theorem Bu.eq {W w : World} {B : Nat} {l m : List UInt8} (h : Bu W B l w) (e : l = m) : Bu W B m w := by rw [← e]; exact h
/-- A builder that has just been made. -/
theorem Bd.fresh (W w : World) (hb : Below w.heap.size W w) : Bd W w.heap.size [] (w.alloc (.cells #[.pointer none, .slice none 0 0] 65)) :=
  ⟨.inl ⟨Nat.le_refl _, _, heap_alloc_new w _, World.ownsRow_nil _ _ _ _, by simp [Value.ownBlock]⟩, hb.alloc (Nat.le_refl _) _, by simp⟩
theorem bd_byte (W : World) (B : Nat) (l : List UInt8) (c : UInt8) (w : World) (h : Bd W B l w) (hl : l.length ≤ 100000000000) :
    Calls Tryz.prog 96 #[.pointer (some ⟨B, 0, none⟩), .int .u8 c.toNat] w fun e w' => e = .returned .nilIface ∧ Bu W B (l ++ [c]) w' := by
  refine (Any.Builder_WriteByte { Tryz.lays158 with } extraU B B (u8s l) (c.toNat : Int) w h.1 (by rw [u8s_len]; omega) h.2.2).mono ?_
  rintro e w' ⟨he, h1, h2⟩
  exact ⟨he, by rw [u8s_app]; exact h1, h.2.1.trans h2, Nat.le_trans h.2.2 h2.size⟩
theorem bd_byteK (W : World) (B : Nat) (l : List UInt8) (c : UInt8) (k : Int) (hk : k = c.toNat) (w : World) (h : Bd W B l w) (hl : l.length ≤ 100000000000) :
    Calls Tryz.prog 96 #[.pointer (some ⟨B, 0, none⟩), .int .u8 k] w fun e w' => e = .returned .nilIface ∧ Bu W B (l ++ [c]) w' := by
  subst hk; exact bd_byte W B l c w h hl
theorem bd_str (W : World) (B : Nat) (l : List UInt8) (s : ByteArray) (w : World) (h : Bd W B l w) (hl : l.length + s.size ≤ 100000000000000) :
    Calls Tryz.prog 30 #[.pointer (some ⟨B, 0, none⟩), .string s] w fun e w' => e = .returned (.tuple #[.int .i64 s.size, .nilIface]) ∧ Bu W B (l ++ s.data.toList) w' := by
  refine (Any.Builder_WriteString { Tryz.lays158 with } extraU B B (u8s l) s w h.1 (by rw [u8s_len]; omega) h.2.2).mono ?_
  rintro e w' ⟨he, h1, h2⟩
  exact ⟨he, by rw [u8s_app, ← u8s_str]; exact h1, h.2.1.trans h2, Nat.le_trans h.2.2 h2.size⟩
theorem bd_len (W : World) (B : Nat) (l : List UInt8) (w : World) (h : Bd W B l w) :
    Calls Tryz.prog 32 #[.pointer (some ⟨B, 0, none⟩)] w fun e w' => e = .returned (.int .i64 l.length) ∧ w = w' := by
  refine (Any.Builder_Len Tryz.lays170 B B (u8s l) w h.1).mono ?_
  rintro e w' ⟨he, hw⟩
  exact ⟨by rw [he, u8s_len], hw.symm⟩
theorem bd_string (W : World) (B : Nat) (l : List UInt8) (w : World) (h : Bd W B l w) :
    Calls Tryz.prog 33 #[.pointer (some ⟨B, 0, none⟩)] w fun e w' => e = .returned (.string (mkS l)) ∧ Below B W w' := by
  refine (Any.Builder_String_any Tryz.lays169 ⟨⟨by kernel_rfl, by kernel_rfl⟩, Tryz.underlying5, Tryz.isAgg5, Tryz.sizeOf5, Tryz.zeroValue5, by kernel_rfl, by kernel_rfl, by kernel_rfl, by decide⟩ B B l w h.1 h.2.2).mono ?_
  rintro e w' ⟨he, h2⟩
  exact ⟨he, h.2.1.trans h2⟩
set_option maxRecDepth 100000 in
set_option maxHeartbeats 2000000 in
/-- Write at a builder that has been written: bytes of a slice, wherever it lies. -/
theorem bd_write (W : World) (B : Nat) (l news : List UInt8) (g m c : Nat) (w : World) (hm : news.length = m) (h : Bu W B l w) (hn : ∀ (j : Nat) u, (u8s news)[j]? = some u → w.cell? ((⟨g, 0, none⟩ : Addr).add j) = some u) (hl : l.length + news.length ≤ 100000000000000) :
    Calls Tryz.prog 97 #[.pointer (some ⟨B, 0, none⟩), .slice (some ⟨g, 0, none⟩) m c] w fun e w' => e = .returned (.tuple #[.int .i64 m, .nilIface]) ∧ Bu W B (l ++ news) w' := by
  subst hm
  obtain ⟨i0, hi, hz0, hz1, hz2⟩ := info_parts extraU.infoByte
  obtain ⟨⟨hB, v, hbk, hown, hne⟩, hbW, hBw⟩ := h
  have hlt : B < w.heap.size := (Array.getElem?_eq_some_iff.1 hbk).1
  have c0 := cell_of_row w B 0 _ _ (0, 0) hbk
  have c1 := cell_of_row w B 1 _ _ (0, 0) hbk
  simp at c0 c1
  have f1 := frozen_of_row w B 1 _ _ hbk
  have HC : Hid (Calls Tryz.prog 48 #[.pointer (some ⟨B, 0, none⟩)] w fun e w' => e = .returned (.tuple #[]) ∧ w' = w) := (Any.Builder_copyCheck_used (P := Tryz.prog) (ρ := Tryz.lays158_ren) { Tryz.lays158 with } extraU.toX72 B w c0)
  rw [u8s_len] at hown
  have HO := Lib.hid hown
  have HN := Lib.hid hn
  have HBK := Lib.hid hbk
  have HNE := Lib.hid hne
  have HBW := Lib.hid hbW
  clear hn hown hbk hne hbW
  go_enter Tryz.func97, Tryz.ntmps97
  go_wp2_with (first | (go_at_call 48; (with_reducible refine HC.out.mono ?_); rintro e w1 ⟨rfl, rfl⟩) | (at_builtin; refine wpList_append_own _ rfl _ _ 52 rfl B 5 i0 (.int .u8 0) 1 1 Tryz.underlying52 hi hz0 hz1 hz2 rfl (by decide) v l.length (u8s l) rfl HO.out ⟨g, 0, none⟩ news.length c (u8s news) rfl (by rw [u8s_len]; omega) HN.out (by unfold u8s; simp [Value.oneCell']) (by unfold maxLen; omega) (by omega) hBw ?_; intro v' w2 hown' hgrow _; have HG := Lib.hid hgrow; have HO2 := Lib.hid hown'; clear hown' hgrow; obtain ⟨ao, n', cap, rfl⟩ : ∃ ao n' cap, v' = .slice ao n' cap := (by rcases HO2.out.2 with ⟨hv, _⟩ | ⟨g, cap, cur, hv, _⟩ <;> exact ⟨_, _, _, hv⟩); obtain ⟨d0, d1, f2, HB2⟩ : w2.cell? ⟨B, 0, none⟩ = some (.pointer (some ⟨B, 0, none⟩)) ∧ w2.cell? ⟨B, 1, none⟩ = some v ∧ w2.frozen? ⟨B, 1, none⟩ = false ∧ Hid (w2.heap[B]? = some (.cells #[.pointer (some ⟨B, 0, none⟩), v] 65 (0, 0))) := (by
      have hb2 := (HG.out.block B hlt (fun e => HNE.out e.symm)).trans HBK.out
      exact ⟨by rw [Lib.cell_of_heap hb2]; rfl, by rw [Lib.cell_of_heap hb2]; rfl, Lib.frozen_of_heap hb2 1, hb2⟩)))
  go_wp2_with fail
  go_returns
  refine ⟨rfl, ?_, ?_, ?_⟩
  · exact Lib.BuilderAt.put hB HB2.out (bs' := u8s (l ++ news)) (by rw [u8s_len, u8s_app, List.length_append]; exact HO2.out) (by decide)
  · exact HBW.out.trans (((Below.refl _ _).grown HG.out hBw (fun k hk => (HO.out.lt k hk).1)).setCell (p := ⟨B, 1, none⟩) hB _)
  · rw [size_setCell_eq]; exact Nat.le_trans hBw HG.out.size
end Go.Proofs.YtemlijadhdejeaaGreatDoor

/- The program's literal of a string. -/
namespace Go.Proofs.YtemlijadhdejeaaGreatDoor
open Go.RowKit Go.Instr
set_option linter.unusedVariables false

theorem q2_nl {c : UInt8} (h : c.toNat = 10) : quoteC c = [92, 110] := by unfold quoteC; rw [if_pos h]
theorem q2_tab {c : UInt8} (h0 : ¬ c.toNat = 10) (h : c.toNat = 9) : quoteC c = [92, 116] := by unfold quoteC; rw [if_neg h0, if_pos h]
theorem q2_esc {c : UInt8} (h0 : ¬ c.toNat = 10) (h1 : ¬ c.toNat = 9) (h : c.toNat = 92 ∨ c.toNat = 34) : quoteC c = [92, c] := by unfold quoteC; rw [if_neg h0, if_neg h1, if_pos h]
theorem q2_num {c : UInt8} (h0 : ¬ c.toNat = 10) (h1 : ¬ c.toNat = 9) (h2 : ¬ (c.toNat = 92 ∨ c.toNat = 34)) (h : c.toNat < 32 ∨ 126 < c.toNat) :
    u8s (quoteC c) = [.int .u8 92, .int .u8 (48 + (c.toNat : Int) / 100), .int .u8 (48 + (c.toNat : Int) / 10 % 10), .int .u8 (48 + (c.toNat : Int) % 10)] := by
  have hc := UInt8.toNat_lt c
  unfold quoteC
  rw [if_neg h0, if_neg h1, if_neg h2, if_pos h]
  simp [u8s]
  omega
theorem q2_any {c : UInt8} (h0 : ¬ c.toNat = 10) (h1 : ¬ c.toNat = 9) (h2 : ¬ (c.toNat = 92 ∨ c.toNat = 34)) (h : ¬ (c.toNat < 32 ∨ 126 < c.toNat)) : quoteC c = [c] := by
  unfold quoteC; rw [if_neg h0, if_neg h1, if_neg h2, if_neg h]
theorem q2_step (s : ByteArray) (k : Nat) (h : k < s.size) : 34 :: quoteM (s.data.toList.take (k + 1)) = (34 :: quoteM (s.data.toList.take k)) ++ quoteC (s[k]'h) := by
  have e : s.data.toList.take (k + 1) = s.data.toList.take k ++ [s[k]'h] := by rw [List.take_succ_eq_append_getElem (by simpa using h)]; rfl
  rw [e, quoteM_snoc, ← List.cons_append]
theorem rel_len (s : ByteArray) (k : Nat) (hs : s.size ≤ 1000000) : ((34 : UInt8) :: quoteM (s.data.toList.take k)).length ≤ 4000001 := by
  have h1 := quoteM_len (s.data.toList.take k)
  have h2 : s.data.toList.length = s.size := by simp
  rw [List.length_cons]
  rw [List.length_take] at h1
  omega

set_option maxHeartbeats 8000000 in
set_option maxRecDepth 100000 in
theorem fquoted_any (s : ByteArray) (w : World) (hs : s.size ≤ 1000000) :
    Calls Tryz.prog 73 #[.string s] w fun e w' => e = .returned (.string (mkS (quoteL s.data.toList))) ∧ Below w.heap.size w w' := by
  have HF := Lib.hid (Bd.fresh w w (Below.refl _ _))
  go_enter Tryz.func73, Tryz.ntmps73
  go_wp2_with (first | (go_at_call 96; (with_reducible refine (bd_byteK w w.heap.size [] 34 _ ?_ _ HF.out ?_).mono ?_); (focus rfl); (focus simp); rintro e w1 ⟨rfl, hb1⟩; have HB0 := Lib.hid hb1; clear hb1))
  go_loopw [9] (fun i wr => ∃ k : Nat, k ≤ s.size ∧ i = .int .i64 k ∧ Hid (Bu w w.heap.size (34 :: quoteM (s.data.toList.take k)) wr)) (fun i _ => s.size - (intOf i).toNat)
  case atStart => exact ⟨0, Nat.zero_le _, rfl, HB0.out⟩
  case round =>
    obtain ⟨k, hk, rfl, HB⟩ := hrel
    have hln := rel_len s k hs
    by_cases hlt : k < s.size
    · have HS := Lib.hid (q2_step s k hlt)
      obtain ⟨c, hc⟩ : ∃ c, s[k]'hlt = c := ⟨_, rfl⟩
      rw [hc] at HS
      obtain ⟨xs, hxs⟩ : ∃ xs, 34 :: quoteM (s.data.toList.take k) = xs := ⟨_, rfl⟩
      rw [hxs] at HS HB hln
      clear hxs
      have hc0 := UInt8.toNat_lt c
      by_cases h10 : c.toNat = 10
      · have HQ := Lib.hid (q2_nl h10)
        have b10 : ((c.toNat : Int) == 10) = true := by simp; omega
        clear h10
        go_wp2_with (first | (go_at_call 30; (with_reducible refine (bd_str w w.heap.size xs _ _ HB.out.bd ?_).mono ?_); (focus (first | omega | (simp [ByteArray.size]; omega))); rintro e w1 ⟨rfl, hb1⟩; have HC := Lib.hid hb1; clear hb1))
        refine ⟨⟨k + 1, by omega, by go_num, ?_⟩, by simp [intOf]; omega⟩
        show Bu _ _ _ _
        exact HC.out.eq (by rw [HS.out, HQ.out] <;> rfl)
      · have b10 : ((c.toNat : Int) == 10) = false := by simp; omega
        by_cases h9 : c.toNat = 9
        · have HQ := Lib.hid (q2_tab h10 h9)
          have b9 : ((c.toNat : Int) == 9) = true := by simp; omega
          clear h10 h9
          go_wp2_with (first | (go_at_call 30; (with_reducible refine (bd_str w w.heap.size xs _ _ HB.out.bd ?_).mono ?_); (focus (first | omega | (simp [ByteArray.size]; omega))); rintro e w1 ⟨rfl, hb1⟩; have HC := Lib.hid hb1; clear hb1))
          refine ⟨⟨k + 1, by omega, by go_num, ?_⟩, by simp [intOf]; omega⟩
          show Bu _ _ _ _
          exact HC.out.eq (by rw [HS.out, HQ.out] <;> rfl)
        · have b9 : ((c.toNat : Int) == 9) = false := by simp; omega
          by_cases h34 : c.toNat = 34
          · have HQ := Lib.hid (q2_esc h10 h9 (.inr h34))
            have b34 : ((c.toNat : Int) == 34) = true := by simp; omega
            clear h10 h9 h34
            go_wp2_with (first | (go_at_call 96; (with_reducible refine (bd_byteK w w.heap.size xs 92 _ ?_ _ HB.out.bd ?_).mono ?_); (focus rfl); (focus (first | omega | ((try simp); omega))); rintro e w1 ⟨rfl, hb1⟩; have HB1 := Lib.hid hb1; clear hb1) | (go_at_call 96; (with_reducible refine (bd_byteK w w.heap.size (xs ++ [92]) c _ ?_ _ HB1.out.bd ?_).mono ?_); (focus rfl); (focus (first | omega | ((try simp); omega))); rintro e w1 ⟨rfl, hb1⟩; have HC := Lib.hid hb1; clear hb1))
            refine ⟨⟨k + 1, by omega, by go_num, ?_⟩, by simp [intOf]; omega⟩
            show Bu _ _ _ _
            exact HC.out.eq (by rw [HS.out, HQ.out, List.append_assoc] <;> rfl)
          · have b34 : ((c.toNat : Int) == 34) = false := by simp; omega
            by_cases h92 : c.toNat = 92
            · have HQ := Lib.hid (q2_esc h10 h9 (.inl h92))
              have b92 : ((c.toNat : Int) == 92) = true := by simp; omega
              clear h10 h9 h34 h92
              go_wp2_with (first | (go_at_call 96; (with_reducible refine (bd_byteK w w.heap.size xs 92 _ ?_ _ HB.out.bd ?_).mono ?_); (focus rfl); (focus (first | omega | ((try simp); omega))); rintro e w1 ⟨rfl, hb1⟩; have HB1 := Lib.hid hb1; clear hb1) | (go_at_call 96; (with_reducible refine (bd_byteK w w.heap.size (xs ++ [92]) c _ ?_ _ HB1.out.bd ?_).mono ?_); (focus rfl); (focus (first | omega | ((try simp); omega))); rintro e w1 ⟨rfl, hb1⟩; have HC := Lib.hid hb1; clear hb1))
              refine ⟨⟨k + 1, by omega, by go_num, ?_⟩, by simp [intOf]; omega⟩
              show Bu _ _ _ _
              exact HC.out.eq (by rw [HS.out, HQ.out, List.append_assoc] <;> rfl)
            · have b92 : ((c.toNat : Int) == 92) = false := by simp; omega
              have h2 : ¬ (c.toNat = 92 ∨ c.toNat = 34) := by omega
              by_cases hlo : c.toNat < 32
              · have HQ := Lib.hid (q2_num h10 h9 h2 (.inl hlo))
                have d1 : decide ((c.toNat : Int) < 32) = true := by simp; omega
                have H4 : Hid ((quoteC c).length = 4) := by have := congrArg List.length HQ.out; rw [u8s_len] at this; exact this
                clear h10 h9 h34 h92 h2 hlo
                go_wp2_with (first | (go_at_call 97; (with_reducible refine (bd_write w w.heap.size xs (quoteC c) _ 4 _ _ H4.out (HB.out.alloc _) ?_ ?_).mono ?_); (focus (rw [HQ.out]; exact cells_at _ _ [.int .u8 92, .int .u8 (48 + (c.toNat : Int) / 100), .int .u8 (48 + (c.toNat : Int) / 10 % 10), .int .u8 (48 + (c.toNat : Int) % 10)] _ rfl)); (focus (rw [H4.out]; omega)); rintro e w1 ⟨rfl, hb1⟩; have HC := Lib.hid hb1; clear hb1))
                refine ⟨⟨k + 1, by omega, by go_num, ?_⟩, by simp [intOf]; omega⟩
                show Bu _ _ _ _
                exact HC.out.eq (by rw [HS.out])
              · have d1 : decide ((c.toNat : Int) < 32) = false := by simp; omega
                by_cases hhi : 126 < c.toNat
                · have HQ := Lib.hid (q2_num h10 h9 h2 (.inr hhi))
                  have d2 : decide (126 < (c.toNat : Int)) = true := by simp; omega
                  have H4 : Hid ((quoteC c).length = 4) := by have := congrArg List.length HQ.out; rw [u8s_len] at this; exact this
                  clear h10 h9 h34 h92 h2 hlo hhi
                  go_wp2_with (first | (go_at_call 97; (with_reducible refine (bd_write w w.heap.size xs (quoteC c) _ 4 _ _ H4.out (HB.out.alloc _) ?_ ?_).mono ?_); (focus (rw [HQ.out]; exact cells_at _ _ [.int .u8 92, .int .u8 (48 + (c.toNat : Int) / 100), .int .u8 (48 + (c.toNat : Int) / 10 % 10), .int .u8 (48 + (c.toNat : Int) % 10)] _ rfl)); (focus (rw [H4.out]; omega)); rintro e w1 ⟨rfl, hb1⟩; have HC := Lib.hid hb1; clear hb1))
                  refine ⟨⟨k + 1, by omega, by go_num, ?_⟩, by simp [intOf]; omega⟩
                  show Bu _ _ _ _
                  exact HC.out.eq (by rw [HS.out])
                · have HQ := Lib.hid (q2_any h10 h9 h2 (by omega))
                  have d2 : decide (126 < (c.toNat : Int)) = false := by simp; omega
                  clear h10 h9 h34 h92 h2 hlo hhi
                  go_wp2_with (first | (go_at_call 96; (with_reducible refine (bd_byteK w w.heap.size xs c _ ?_ _ HB.out.bd ?_).mono ?_); (focus rfl); (focus (first | omega | ((try simp); omega))); rintro e w1 ⟨rfl, hb1⟩; have HC := Lib.hid hb1; clear hb1))
                  refine ⟨⟨k + 1, by omega, by go_num, ?_⟩, by simp [intOf]; omega⟩
                  show Bu _ _ _ _
                  exact HC.out.eq (by rw [HS.out, HQ.out] <;> rfl)
    · obtain rfl : k = s.size := by omega
      have HT : Hid (34 :: quoteM (s.data.toList.take s.size) ++ [34] = quoteL s.data.toList) := by
        show _ = _
        rw [List.take_of_length_le (by simp)]
        unfold quoteL
        rw [List.cons_append]
      obtain ⟨xs, hxs⟩ : ∃ xs, 34 :: quoteM (s.data.toList.take s.size) = xs := ⟨_, rfl⟩
      rw [hxs] at HB hln HT
      clear hxs
      go_wp2_with (first | (go_at_call 96; (with_reducible refine (bd_byteK w w.heap.size xs 34 _ ?_ _ HB.out.bd ?_).mono ?_); (focus rfl); (focus (first | omega | ((try simp); omega))); rintro e w1 ⟨rfl, hb1⟩; have HC := Lib.hid hb1; clear hb1) | (go_at_call 33; (with_reducible refine (bd_string w w.heap.size _ _ (HC.out.eq HT.out).bd).mono ?_); rintro e w2 ⟨rfl, hb2⟩))
      go_returns
      exact ⟨rfl, hb2⟩
end Go.Proofs.YtemlijadhdejeaaGreatDoor

/- The program's padding of a format. -/
namespace Go.Proofs.YtemlijadhdejeaaGreatDoor
open Go.RowKit Go.Instr
set_option linter.unusedVariables false

theorem ret_s {a b : ByteArray} (h : a = b) : Ending.returned (.string a) = .returned (.string b) := by rw [h]
theorem padN_is (W : Int) (l : List UInt8) : max 0 (min (max 0 W) 99 - (l.length : Int)) = ((padN W l : Nat) : Int) := by unfold padN; omega
set_option maxHeartbeats 1000000 in
set_option maxRecDepth 100000 in
theorem fpad_any (l : List UInt8) (W : Int) (mi : Bool) (w : World) (hl : l.length ≤ 10000000) (h1 : -9223372036854775808 ≤ W) (h2 : W ≤ 9223372036854775807) :
    Calls Tryz.prog 21 #[.string (mkS l), .int .i64 W, .bool mi] w fun e w' => e = .returned (.string (mkS (padL l W mi))) ∧ Below w.heap.size w w' := by
  have hsz := mkS_size l
  have HR := Lib.hid (fun w' => rep_any 32 (padN W l) _ (padN_is W l) (by have := padN_le W l; omega) w')
  have hbl : (mkS (List.replicate (padN W l) (32 : UInt8))).size ≤ 99 := by rw [mkS_size, List.length_replicate]; exact padN_le W l
  have HP : Hid (padL l W mi = if mi then l ++ List.replicate (padN W l) 32 else List.replicate (padN W l) 32 ++ l) := rfl
  obtain ⟨b, hb⟩ : ∃ b, List.replicate (padN W l) (32 : UInt8) = b := ⟨_, rfl⟩
  rw [hb] at HR hbl HP
  clear hb
  cases mi
  all_goals
    go_enter Tryz.func21, Tryz.ntmps21
    go_wp2_with (first | (go_at_call 20; (with_reducible refine (HR.out _).mono ?_); rintro e w1 ⟨rfl, hb1⟩))
    go_returns
    exact ⟨ret_s (by rw [HP.out]; first | exact cat_mk _ _ | (simp; exact cat_mk _ _)), hb1⟩
end Go.Proofs.YtemlijadhdejeaaGreatDoor
