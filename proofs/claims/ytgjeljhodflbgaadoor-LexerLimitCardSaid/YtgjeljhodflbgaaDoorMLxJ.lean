/- Join of the program and Join of the reference: the text of tokens. -/
import Derived.Test.YtgjeljhodflbgaaDoorMLxQ
namespace Go.Proofs.YtgjeljhodflbgaaDoor
open Go.RowKit Go.Instr Go.Shelf
set_option linter.unusedVariables false

theorem str_info : (Tryd.prog.info? 9).map (fun i => (i.zero, i.size, i.bytes)) = some (some (.string ⟨#[]⟩), 1, 16) := by kernel_rfl
theorem extraJ : Builder.Extra Tryd.prog Tryd.lays156_ren where
  sizeBuilder := by kernel_rfl
  liesBuilder := by kernel_rfl
  t5 := Tryd.underlying5
  a5 := Tryd.isAgg5
  z5 := Tryd.sizeOf5
  v5 := Tryd.zeroValue5
  infoByte := by kernel_rfl
  cellsByte := by kernel_rfl
  sizeByte := by kernel_rfl
  neB5 := by decide
/-- A token with any numbers. -/
structure TZ where
  k : Int
  x : List UInt8
  ln : Int
  at_ : Int
def TZ.pair (t : TZ) : Int × List UInt8 := (t.k, t.x)
def TzAt (w : World) (b o : Nat) (t : TZ) : Prop := w.cell? ⟨b, o, none⟩ = some (.int .i64 t.k) ∧ w.cell? ⟨b, o + 1, none⟩ = some (.string (mkS t.x)) ∧ w.cell? ⟨b, o + 2, none⟩ = some (.int .i64 t.ln) ∧ w.cell? ⟨b, o + 3, none⟩ = some (.int .i64 t.at_)
theorem TzAt.below {W w : World} (hb : Below W.heap.size W w) {b o : Nat} {t : TZ} (h : TzAt W b o t) : TzAt w b o t :=
  ⟨(hb.cell (p := ⟨b, _, none⟩) (cell_lt h.1)).trans h.1, (hb.cell (p := ⟨b, _, none⟩) (cell_lt h.1)).trans h.2.1, (hb.cell (p := ⟨b, _, none⟩) (cell_lt h.1)).trans h.2.2.1, (hb.cell (p := ⟨b, _, none⟩) (cell_lt h.1)).trans h.2.2.2⟩
/-- Tokens at a slice's address. -/
def ZsAt (w : World) (a : Option Addr) (l : List TZ) : Prop := l.length = 0 ∨ ∃ b o, a = some ⟨b, o, none⟩ ∧ ∀ k, (hk : k < l.length) → TzAt w b (o + k * 4) l[k]
theorem ZsAt.later {w W : World} {a : Option Addr} {l : List TZ} (h : ZsAt w a l) (hb : Below w.heap.size w W) : ZsAt W a l := by
  rcases h with h | ⟨b, o, h1, h2⟩
  · exact .inl h
  · exact .inr ⟨b, o, h1, fun k hk => (h2 k hk).below hb⟩
theorem take_next {α : Type} (l : List α) (k : Nat) (h : k < l.length) : l.take (k + 1) = l.take k ++ [l[k]] := by rw [List.take_succ_eq_append_getElem h]
def wordsV (l : List TZ) : List Value := l.map fun t => .string (mkS (rendT t.k t.x))
theorem wordsV_snoc (l : List TZ) (t : TZ) : wordsV (l ++ [t]) = wordsV l ++ [.string (mkS (rendT t.k t.x))] := by unfold wordsV; simp
theorem wordsV_len (l : List TZ) : (wordsV l).length = l.length := by unfold wordsV; simp
theorem rend_str (x : List UInt8) : rendT 4 x = quoteL x := if_pos rfl
theorem rend_any {k : Int} (h : k ≠ 4) (x : List UInt8) : rendT k x = x := if_neg h

theorem joinW_none (w : World) (a : Option Addr) (c : Nat) : Calls Tryd.prog 35 #[.slice a 0 c, .string ⟨#[32]⟩] w fun e w' => e = .returned (.string (mkS [])) ∧ Below w.heap.size w w' :=
  (Any.strings_Join_none Tryd.lays156 extraJ a c ⟨#[32]⟩ w).mono fun _ _ ⟨he, hw⟩ => ⟨he, hw ▸ Below.refl _ _⟩
theorem joinW_any (l : List TZ) (w : World) (g c : Nat) (hl : l.length ≤ 1000000) (hc : l.length ≤ c) (hx : ∀ t ∈ l, t.x.length ≤ 100000) (hg : g < w.heap.size) (hcells : ∀ (j : Nat) u, (wordsV l)[j]? = some u → w.cell? ⟨g, j, none⟩ = some u) :
    Calls Tryd.prog 35 #[.slice (some ⟨g, 0, none⟩) l.length c, .string ⟨#[32]⟩] w fun e w' => e = .returned (.string (mkS (joinL (l.map TZ.pair)))) ∧ Below w.heap.size w w' := by
  have hm : (l.map fun t => mkS (rendT t.k t.x)).map (fun s : ByteArray => s.data.toList) = (l.map TZ.pair).map fun t => rendT t.1 t.2 := by
    rw [List.map_map, List.map_map]; rfl
  have hj : Lib.join ((l.map fun t => mkS (rendT t.k t.x)).map (fun s : ByteArray => s.data.toList)) [32] = joinL (l.map TZ.pair) := by
    rw [hm]; exact join_words _
  have hlen := joinL_len 100000 (l.map TZ.pair) (fun t ht => by
    obtain ⟨u, hu, rfl⟩ := List.mem_map.1 ht
    exact hx u hu)
  rw [List.length_map] at hlen
  have h := Any.strings_Join Tryd.lays156 extraJ g 0 c (l.map fun t => mkS (rendT t.k t.x)) ⟨#[32]⟩ w (fun j x hj => by
    rw [Nat.zero_add]
    refine hcells j _ ?_
    unfold wordsV
    rw [List.getElem?_map] at hj ⊢
    cases h0 : l[j]? with
    | none => rw [h0] at hj; cases hj
    | some t => rw [h0] at hj; simp at hj; rw [← hj]; rfl) hg (by rw [List.length_map]; omega) (by rw [List.length_map]; exact hc) (by
      show (Lib.join _ [32]).length ≤ _
      rw [hj]
      have : l.length * (4 * 100000 + 3) ≤ 1000000 * (4 * 100000 + 3) := Nat.mul_le_mul_right _ hl
      omega)
  rw [List.length_map] at h
  rw [show Lib.join ((l.map fun t => mkS (rendT t.k t.x)).map (fun s : ByteArray => s.data.toList)) (⟨#[32]⟩ : ByteArray).data.toList = joinL (l.map TZ.pair) from hj] at h
  exact h

set_option maxHeartbeats 8000000 in
set_option maxRecDepth 100000 in
theorem join_any (l : List TZ) (a : Option Addr) (cap : Nat) (w : World) (hn : l.length ≤ 1000000) (hx : ∀ t ∈ l, t.x.length ≤ 100000) (h : ZsAt w a l) :
    Calls Tryd.prog 21 #[.slice a l.length cap] w fun e w' => e = .returned (.string (mkS (joinL (l.map TZ.pair)))) ∧ Below w.heap.size w w' := by
  obtain ⟨i0, hi1, hz0, hz1, hz2⟩ := info_parts str_info
  have H := Lib.hid h
  have HX := Lib.hid hx
  have HJ := Lib.hid (joinW_any l)
  clear h hx
  go_enter Tryd.func21, Tryd.ntmps21
  go_wp2_with fail
  go_loopw [3, 8] (fun v i wr => ∃ k : Nat, k ≤ l.length ∧ i = .int .i64 k ∧ Hid (Buf w w.heap.size 9 v (wordsV (l.take k)) wr)) (fun _ i _ => l.length - (intOf i).toNat)
  case atStart => exact ⟨0, Nat.zero_le _, rfl, Buf.nil _ _ _ _ (Below.refl _ _) (Nat.le_refl _)⟩
  case round =>
    obtain ⟨k, hk, rfl, HB⟩ := hrel
    have hln : (wordsV (l.take k)).length = k := by rw [wordsV_len, List.length_take]; omega
    by_cases hlt : k < l.length
    · obtain ⟨b, o, rfl, hcs⟩ := H.out.resolve_left (by omega)
      have htk := (hcs k hlt).below (HB.out.2.1)
      have HS : Hid (wordsV (l.take (k + 1)) = wordsV (l.take k) ++ [.string (mkS (rendT (l[k]).k (l[k]).x))]) := by
        show _ = _
        rw [take_next l k hlt, wordsV_snoc]
      have hxl := HX.out _ (List.getElem_mem hlt)
      obtain ⟨t, ht⟩ : ∃ t, l[k] = t := ⟨_, rfl⟩
      rw [ht] at htk HS hxl
      clear ht hcs
      obtain ⟨K, x, L, A⟩ := t
      obtain ⟨q0, q1, q2, q3⟩ := htk
      dsimp only at q0 q1 q2 q3 HS hxl
      obtain ⟨xs, hxs⟩ : ∃ xs, wordsV (l.take k) = xs := ⟨_, rfl⟩
      rw [hxs] at HS HB hln
      clear hxs
      by_cases hK : K = 4
      · have bK : (K == 4) = true := by rw [hK]; rfl
        have HQ : Hid (∀ w', Calls Tryd.prog 19 #[.string (mkS x)] w' fun e w'' => e = .returned (.string (mkS (quoteL x))) ∧ Below w'.heap.size w' w'') := fun w' => quote_any (mkS x) w' (by rw [mkS_size]; omega)
        have HR : Hid (rendT K x = quoteL x) := by rw [hK]; exact rend_str x
        clear hK
        go_wp2_with (first | (go_at_call 19; (with_reducible refine (HQ.out _).mono ?_); rintro e w1 ⟨rfl, hb1⟩; have HB1 := Lib.hid ((HB.out.alloc _).later hb1); clear hb1) | (at_builtin; refine wp_lit rfl _ _ 50 rfl 9 i0 (.string ⟨#[]⟩) 16 Tryd.underlying50 hi1 hz0 hz1 hz2 rfl w w.heap.size _ xs HB1.out rfl ?_ ?_ ?_ ?_ ?_; (focus exact ⟨_, _, rfl, by first | rfl | simp⟩); (focus (simp [Value.oneCell'])); (focus (unfold maxLen; (try simp); omega)); (focus ((try simp); omega)); intro v' w' hb'))
        refine ⟨⟨k + 1, by omega, by go_num, ?_⟩, by simp [intOf]; omega⟩
        show Buf _ _ _ _ _ _
        exact hb'.eq (by rw [HS.out, HR.out])
      · have bK : (K == 4) = false := by simp; exact hK
        have HR := Lib.hid (rend_any hK x)
        clear hK
        go_wp2_with (first | (at_builtin; refine wp_lit rfl _ _ 50 rfl 9 i0 (.string ⟨#[]⟩) 16 Tryd.underlying50 hi1 hz0 hz1 hz2 rfl w w.heap.size _ xs (HB.out.alloc _) rfl ?_ ?_ ?_ ?_ ?_; (focus exact ⟨_, _, rfl, by first | rfl | simp⟩); (focus (simp [Value.oneCell'])); (focus (unfold maxLen; (try simp); omega)); (focus ((try simp); omega)); intro v' w' hb'))
        refine ⟨⟨k + 1, by omega, by go_num, ?_⟩, by simp [intOf]; omega⟩
        show Buf _ _ _ _ _ _
        exact hb'.eq (by rw [HS.out, HR.out])
    · obtain rfl : k = l.length := by omega
      have hB0 := HB.out
      rw [List.take_length] at hB0
      have hsz := hB0.2.2
      by_cases hl0 : l.length = 0
      · obtain rfl : l = [] := List.eq_nil_of_length_eq_zero hl0
        have hF := hB0.form
        rw [show (wordsV []).length = 0 from rfl] at hF
        obtain ⟨a1, c1, rfl⟩ := hF
        have HJ0 := Lib.hid (fun w' => joinW_none w' a1 c1)
        have HB2 := Lib.hid hB0.2.1
        clear hB0 HJ
        go_wp2_with (first | (go_at_call 35; (with_reducible refine (HJ0.out _).mono ?_); rintro e w1 ⟨rfl, hb1⟩))
        go_returns
        exact ⟨rfl, HB2.out.trans (hb1.mono hsz)⟩
      · have hO := hB0.1
        rw [wordsV_len] at hO
        obtain ⟨g, c1, rfl, hg1, hg2, hc1, hcl⟩ := own_cell hO (by omega)
        have HJ1 := Lib.hid (HJ.out wr g c1 hn hc1 HX.out hg2 (fun j u hj => by rw [hcl j (List.getElem?_eq_some_iff.1 hj).1, hj]))
        have HB2 := Lib.hid hB0.2.1
        have hle := wordsV_len l
        clear hB0 hO HJ hcl hl0
        go_wp2_with (first | (go_at_call 35; (with_reducible refine HJ1.out.mono ?_); rintro e w1 ⟨rfl, hb1⟩))
        go_returns
        exact ⟨rfl, HB2.out.trans (hb1.mono hsz)⟩

set_option maxHeartbeats 8000000 in
set_option maxRecDepth 100000 in
theorem rjoin_any (l : List TZ) (a : Option Addr) (cap : Nat) (w : World) (hn : l.length ≤ 1000) (hx : ∀ t ∈ l, t.x.length ≤ 100000) (h : ZsAt w a l) :
    Calls Tryd.prog 22 #[.slice a l.length cap] w fun e w' => e = .returned (.string (mkS (joinL (l.map TZ.pair)))) ∧ Below w.heap.size w w' := by
  obtain ⟨i0, hi1, hz0, hz1, hz2⟩ := info_parts byte_info
  have H := Lib.hid h
  have HX := Lib.hid hx
  clear h hx
  go_enter Tryd.func22, Tryd.ntmps22
  go_wp2_with fail
  go_loopw [3, 4] (fun v i wr => ∃ (k : Nat) (y : List UInt8), k ≤ l.length ∧ i = .int .i64 k ∧ Hid (y = joinL ((l.take k).map TZ.pair)) ∧ Hid (Buf w w.heap.size 5 v (u8s y) wr) ∧ Hid (y = [] → v = .slice none 0 0)) (fun _ i _ => l.length - (intOf i).toNat)
  case atStart => exact ⟨0, [], Nat.zero_le _, rfl, rfl, Buf.nil _ _ _ _ (Below.refl _ _) (Nat.le_refl _), fun _ => rfl⟩
  case round =>
    obtain ⟨k, y, hk, rfl, HY, HB, HN⟩ := hrel
    have hyl : (u8s y).length ≤ 403000000 := by
      have h1 := joinL_len 100000 ((l.take k).map TZ.pair) (fun t ht => by
        obtain ⟨u, hu, rfl⟩ := List.mem_map.1 ht
        exact HX.out u (List.mem_of_mem_take hu))
      rw [List.length_map, List.length_take] at h1
      rw [u8s_len, HY.out]
      have : min k l.length * (4 * 100000 + 3) ≤ 1000 * (4 * 100000 + 3) := Nat.mul_le_mul_right _ (by omega)
      omega
    by_cases hlt : k < l.length
    · obtain ⟨b, o, rfl, hcs⟩ := H.out.resolve_left (by omega)
      have htk := (hcs k hlt).below (HB.out.2.1)
      have htw := hcs k hlt
      have hxl := HX.out _ (List.getElem_mem hlt)
      obtain ⟨t, ht⟩ : ∃ t, l[k] = t := ⟨_, rfl⟩
      have HTN : Hid (joinL ((l.take (k + 1)).map TZ.pair) = (if k = 0 then [] else y ++ [32]) ++ rendT t.k t.x) := by
        show _ = _
        rw [take_next l k hlt, ht, List.map_append, List.map_singleton, HY.out]
        by_cases h0 : k = 0
        · subst h0; rfl
        · rw [if_neg h0, joinL_snoc (by intro e; have := congrArg List.length e; rw [List.length_map, List.length_take] at this; simp only [List.length_nil] at this; omega)]
          simp [TZ.pair]
      have HY0 : Hid (k = 0 → y = []) := by
        show _ → _
        intro h0; subst h0
        exact HY.out
      rw [ht] at htk hxl htw
      clear ht hcs HY
      obtain ⟨K, x, L, A⟩ := t
      have HT0 := Lib.hid htw
      clear htw
      obtain ⟨q0, q1, q2, q3⟩ := htk
      dsimp only at q0 q1 q2 q3 HTN hxl
      -- what stands when the blank is written
      have HK : Hid (K = 4 ∧ rendT K x = quoteL x ∨ K ≠ 4 ∧ rendT K x = x) := by
        show _ ∨ _
        by_cases hK : K = 4
        · exact .inl ⟨hK, by rw [hK]; exact rend_str x⟩
        · exact .inr ⟨hK, rend_any hK x⟩
      have hql := quoteM_len x
      have hqs : (mkS (quoteL x)).size ≤ 400002 := by rw [mkS_size]; unfold quoteL; simp; omega
      have hxs : (mkS x).size ≤ 100000 := by rw [mkS_size]; exact hxl
      have HQ : Hid (∀ w', Calls Tryd.prog 20 #[.string (mkS x)] w' fun e w'' => e = .returned (.string (mkS (quoteL x))) ∧ Below w'.heap.size w' w'') := fun w' => rquote_any (mkS x) w' (by omega)
      clear hql
      by_cases h0 : k = 0
      · obtain rfl : y = [] := HY0.out h0
        subst h0
        rw [if_pos rfl] at HTN
        simp only [Nat.zero_mul, Nat.add_zero] at q0 q1 q2 q3
        rcases HK.out with ⟨hK, hR⟩ | ⟨hK, hR⟩
        · have bK : (K == 4) = true := by rw [hK]; rfl
          have HR := Lib.hid hR
          clear hK hR HK
          have HV := Lib.hid (HN.out rfl)
          obtain rfl := HV.out
          go_wp2_with (first | (go_at_call 20; (with_reducible refine (HQ.out _).mono ?_); rintro e w1 ⟨rfl, hb1⟩; have HB1 := Lib.hid (HB.out.later hb1); clear hb1) | (at_builtin; refine wp_bufS rfl _ _ 49 9 rfl 5 i0 Tryd.underlying49 Tryd.underlying9 hi1 hz0 hz1 hz2 w w.heap.size _ _ HB1.out rfl _ rfl ?_ ?_ ?_; (focus (unfold maxLen; omega)); (focus omega); intro v' w' hb' hn'; have HN' := Lib.hid hn'; clear hn'))
          refine ⟨⟨1, _, by omega, by go_num, rfl, ?_, ?_⟩, by simp [intOf]; omega⟩
          · show Buf _ _ _ _ _ _
            exact hb'.eq (by rw [HTN.out, HR.out]; rfl)
          · show _ → _
            intro he
            rw [HTN.out, HR.out] at he
            unfold quoteL at he; simp at he
        · have bK : (K == 4) = false := by simp; exact hK
          have HR := Lib.hid hR
          clear hK hR HK
          have HV := Lib.hid (HN.out rfl)
          obtain rfl := HV.out
          go_wp2_with (first | (at_builtin; refine wp_bufS rfl _ _ 49 9 rfl 5 i0 Tryd.underlying49 Tryd.underlying9 hi1 hz0 hz1 hz2 w w.heap.size _ _ HB.out rfl _ rfl ?_ ?_ ?_; (focus (unfold maxLen; omega)); (focus omega); intro v' w' hb' hn'; have HN' := Lib.hid hn'; clear hn'))
          refine ⟨⟨1, _, by omega, by go_num, rfl, ?_, ?_⟩, by simp [intOf]; omega⟩
          · show Buf _ _ _ _ _ _
            exact hb'.eq (by rw [HTN.out, HR.out]; rfl)
          · show _ → _
            intro he
            rw [HTN.out, HR.out] at he
            exact HN'.out.2 ⟨rfl, by rw [mkS_size, show x = [] by simpa using he]; rfl⟩
      · have b0 : decide (0 < (k : Int)) = true := by simp; omega
        have b1 : decide (0 < k) = true := by simp; omega
        rw [if_neg h0] at HTN
        rcases HK.out with ⟨hK, hR⟩ | ⟨hK, hR⟩
        · have bK : (K == 4) = true := by rw [hK]; rfl
          have HR := Lib.hid hR
          clear hK hR HK h0
          go_wp2_with (first | (go_at_call 20; (with_reducible refine (HQ.out _).mono ?_); rintro e w1 ⟨rfl, hb1⟩; have HB1 := Lib.hid (HB0.out.later hb1); clear hb1) | (at_builtin; (first | (refine wp_bufS rfl _ _ 49 9 rfl 5 i0 Tryd.underlying49 Tryd.underlying9 hi1 hz0 hz1 hz2 w w.heap.size _ _ HB1.out rfl _ rfl ?_ ?_ ?_; (focus (unfold maxLen; (try simp); omega)); (focus ((try simp); omega)); intro v' w' hb' hn'; clear hn') | (refine wp_lit rfl _ _ 49 rfl 5 i0 (.int .u8 0) 1 Tryd.underlying49 hi1 hz0 hz1 hz2 rfl w w.heap.size _ _ HB.out rfl ?_ ?_ ?_ ?_ ?_; (focus exact ⟨_, _, rfl, by first | rfl | simp⟩); (focus (simp [Value.oneCell'])); (focus (unfold maxLen; (try simp); omega)); (focus ((try simp); omega)); intro v0 w0 hb0; have HB0 := Lib.hid hb0; obtain ⟨r0, r1, r2, r3⟩ := HT0.out.below HB0.out.2.1; dsimp only at r0 r1 r2 r3; clear hb0))))
          refine ⟨⟨k + 1, _, by omega, by go_num, rfl, ?_, ?_⟩, by simp [intOf]; omega⟩
          · show Buf _ _ _ _ _ _
            exact hb'.eq (by rw [HTN.out, HR.out, u8s_app, u8s_app]; rfl)
          · show _ → _
            intro he
            rw [HTN.out] at he; simp at he
        · have bK : (K == 4) = false := by simp; exact hK
          have HR := Lib.hid hR
          clear hK hR HK h0
          go_wp2_with (first | (at_builtin; (first | (refine wp_bufS rfl _ _ 49 9 rfl 5 i0 Tryd.underlying49 Tryd.underlying9 hi1 hz0 hz1 hz2 w w.heap.size _ _ HB0.out rfl _ rfl ?_ ?_ ?_; (focus (unfold maxLen; (try simp); omega)); (focus ((try simp); omega)); intro v' w' hb' hn'; clear hn') | (refine wp_lit rfl _ _ 49 rfl 5 i0 (.int .u8 0) 1 Tryd.underlying49 hi1 hz0 hz1 hz2 rfl w w.heap.size _ _ HB.out rfl ?_ ?_ ?_ ?_ ?_; (focus exact ⟨_, _, rfl, by first | rfl | simp⟩); (focus (simp [Value.oneCell'])); (focus (unfold maxLen; (try simp); omega)); (focus ((try simp); omega)); intro v0 w0 hb0; have HB0 := Lib.hid hb0; obtain ⟨r0, r1, r2, r3⟩ := HT0.out.below HB0.out.2.1; dsimp only at r0 r1 r2 r3; clear hb0))))
          refine ⟨⟨k + 1, _, by omega, by go_num, rfl, ?_, ?_⟩, by simp [intOf]; omega⟩
          · show Buf _ _ _ _ _ _
            exact hb'.eq (by rw [HTN.out, HR.out, u8s_app, u8s_app]; rfl)
          · show _ → _
            intro he
            rw [HTN.out] at he; simp at he
    · obtain rfl : k = l.length := by omega
      have hy := HY.out
      rw [List.take_length] at hy
      have HYe := Lib.hid hy
      have hcv := HB.out.str HN.out 49 9 Tryd.underlying49 Tryd.underlying5 Tryd.underlying9
      clear hy HY
      go_wp2_with fail
      go_returns
      exact ⟨by rw [HYe.out]; rfl, HB.out.2.1⟩
end Go.Proofs.YtgjeljhodflbgaaDoor
