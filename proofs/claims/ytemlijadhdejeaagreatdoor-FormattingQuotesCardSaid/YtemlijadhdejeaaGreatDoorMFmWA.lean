/- The program's Pieces. -/
import Derived.Test.YtemlijadhdejeaaGreatDoorMFmW9
import Derived.Test.YtemlijadhdejeaaGreatDoorMFmW3
namespace Go.Proofs.YtemlijadhdejeaaGreatDoor
open Go.RowKit Go.Instr
set_option linter.unusedVariables false

/-- The parts of what is left, behind those that are read. -/
def pcsT (r : List UInt8) (out : List Pc) (a : List UInt8) : Option (List Pc) := (evs r).map fun E => out ++ grp E a
theorem pcsT_nil (out : List Pc) (a : List UInt8) : pcsT [] out a = some (out ++ flushP a) := by unfold pcsT; rw [evs_nil]; rfl
theorem pcsT_ch {c : UInt8} {t : List UInt8} (h : c.toNat ≠ 37) (out : List Pc) (a : List UInt8) : pcsT (c :: t) out a = pcsT t out (a ++ [c]) := by
  unfold pcsT; rw [evs_ch h]; cases evs t <;> rfl
theorem pcsT_two (t : List UInt8) (out : List Pc) (a : List UInt8) : pcsT (37 :: 37 :: t) out a = pcsT t out (a ++ [37]) := by
  unfold pcsT; rw [evs_two]; cases evs t <;> rfl
theorem pcsT_bad {t : List UInt8} (h : (t.head?.map UInt8.toNat) ≠ some 37) (hd : dirT t = none) (out : List Pc) (a : List UInt8) : pcsT (37 :: t) out a = none := by
  unfold pcsT; rw [evs_bad h hd]; rfl
theorem pcsT_dir {t : List UInt8} {x : Pc × Nat} (h : (t.head?.map UInt8.toNat) ≠ some 37) (hd : dirT t = some x) (out : List Pc) (a : List UInt8) : pcsT (37 :: t) out a = pcsT (t.drop x.2) (out ++ flushP a ++ [x.1]) [] := by
  unfold pcsT; rw [evs_dir h hd]; cases evs (t.drop x.2) <;> simp [grp]
theorem flushP_le (a : List UInt8) : (flushP a).length ≤ 1 := by unfold flushP; split <;> simp
/-- What Pieces hands back. -/
def PcsPost (T : TypeId) (o : Option (List Pc)) (w : World) (e : Ending) (w' : World) : Prop :=
  match o with
  | none => e = .returned (.tuple #[.slice none 0 0, .int .i64 4])
  | some l => ∃ v, e = .returned (.tuple #[v, .int .i64 0]) ∧ w'.ownsRow w.heap.size T 7 v l.length (flatPc l)
theorem box_cells {w : World} {b : Nat} {t : ByteArray} {V W N : Int} {mi ze pl : Bool} {T : TypeId} (h : w.heap[b]? = some (.cells #[.string t, .int .u8 V, .bool mi, .bool ze, .bool pl, .int .i64 W, .int .i64 N] T (0, 0))) :
    w.cell? ⟨b, 0, none⟩ = some (.string t) ∧ w.cell? ⟨b, 1, none⟩ = some (.int .u8 V) ∧ w.cell? ⟨b, 2, none⟩ = some (.bool mi) ∧ w.cell? ⟨b, 3, none⟩ = some (.bool ze) ∧ w.cell? ⟨b, 4, none⟩ = some (.bool pl) ∧ w.cell? ⟨b, 5, none⟩ = some (.int .i64 W) ∧ w.cell? ⟨b, 6, none⟩ = some (.int .i64 N) :=
  ⟨cell_of_row w b 0 _ _ (0, 0) h, cell_of_row w b 1 _ _ (0, 0) h, cell_of_row w b 2 _ _ (0, 0) h, cell_of_row w b 3 _ _ (0, 0) h, cell_of_row w b 4 _ _ (0, 0) h, cell_of_row w b 5 _ _ (0, 0) h, cell_of_row w b 6 _ _ (0, 0) h⟩
theorem ownsRow_base {w : World} {base base' : Nat} {e : TypeId} {size : Nat} {v : Value} {n : Nat} {xs : List Value} (h : w.ownsRow base e size v n xs) (hb : base' ≤ base) : w.ownsRow base' e size v n xs := by
  obtain ⟨h1, h2 | ⟨g, cap, cur, hv, hg, rest⟩⟩ := h
  · exact ⟨h1, .inl h2⟩
  · exact ⟨h1, .inr ⟨g, cap, cur, hv, Nat.le_trans hb hg, rest⟩⟩
theorem drop_cons (s : ByteArray) (k : Nat) (h : k < s.size) : s.data.toList.drop k = s[k]'h :: s.data.toList.drop (k + 1) := by
  rw [List.drop_eq_getElem_cons (by simpa using h)]; rfl

set_option maxHeartbeats 8000000 in
set_option maxRecDepth 100000 in
theorem fpcs_any (s : ByteArray) (w : World) (hs : s.size ≤ 100000) :
    Calls Tryz.prog 12 #[.string s] w fun e w' => PcsPost 31 (pcsT s.data.toList [] []) w e w' ∧ Below w.heap.size w w' := by
  obtain ⟨i0, hi0, hz0, hz1, hz2⟩ := info_parts piece_info
  obtain ⟨j0, hj0, hy0, hy1, hy2⟩ := info_parts byte_inf2
  have hmf : ∀ (fn : Fn) (first cap : Array Value) (w : World), (Instr.makeFunc fn first cap).run Tryz.prog w = .ok (.func fn first cap) w := fun _ _ _ _ => rfl
  have HFL := Lib.hid (fun w' out a v u h1 h2 h3 => flush_any w w' w.heap.size out a v u h1 h2 h3)
  have HDR := Lib.hid (fun k w' h => fdir_any s k w' h hs)
  have hs0 : s.data.toList.length = s.size := by simp
  go_enter Tryz.func12, Tryz.ntmps12
  go_wp2_with fail
  go_loopw [7] (fun i wr => ∃ (k : Nat) (out : List Pc) (a : List UInt8) (v u : Value), k ≤ s.size ∧ i = .int .i64 k ∧ Hid (pcsT (s.data.toList.drop k) out a = pcsT s.data.toList [] []) ∧ Hid (out.length + (flushP a).length ≤ k ∧ a.length ≤ k) ∧ Hid (PSt w w.heap.size out a v u wr)) (fun i _ => s.size - (intOf i).toNat)
  case atStart =>
    refine ⟨0, [], [], .slice none 0 0, .slice none 0 0, Nat.zero_le _, rfl, by show _ = _; rw [List.drop_zero], ⟨Nat.le_refl _, Nat.le_refl _⟩, ?_⟩
    show PSt _ _ _ _ _ _ _
    refine ⟨?_, ?_, World.ownsRow_nil _ _ _ _, World.ownsRow_nil _ _ _ _, fun k h => by simp [Value.ownBlock] at h, ?_⟩
    · exact (heap_alloc_old _ _ (by simp)).trans (heap_new_at _ _ _ rfl)
    · exact heap_new_at _ _ _ (by simp)
    · (repeat' (first | (with_reducible exact Below.refl _ _) | (with_reducible assumption) | (with_reducible refine Below.alloc ?_ ?_ _) | (with_reducible refine below_drewN ?_ _) | (with_reducible refine Below.drew ?_) | (with_reducible refine Below.setCell ?_ ?_ _) | (with_reducible refine below_via (by assumption) ?_ ?_) | (with_reducible refine below_via (later_below _) ?_ ?_) | (with_reducible exact Nat.le_refl _) | omega | (simp; omega) | (simp; done)))
  case round =>
    obtain ⟨k, out, a, v, u, hk, rfl, HT, HL, HP⟩ := hrel
    have hB := HP.out.lt
    obtain ⟨c1, c2, f1, f2⟩ := HP.out.cells
    obtain ⟨xu, cu, rfl⟩ := own_form HP.out.2.2.2.1
    obtain ⟨xv, cv, rfl⟩ := own_form HP.out.2.2.1
    have HVB : Hid (∀ j, (Value.slice xv out.length cv).ownBlock = some j → w.heap.size + 2 ≤ j ∧ j < wr.heap.size) := fun j hj => HP.out.2.2.1.lt j hj
    have HUB : Hid (∀ j, (Value.slice xu a.length cu).ownBlock = some j → w.heap.size + 2 ≤ j ∧ j < wr.heap.size) := fun j hj => HP.out.2.2.2.1.lt j hj
    have hL1 : out.length ≤ 100000 := by have := HL.out.1; omega
    have hL2 : a.length ≤ 100000 := by have := HL.out.2; omega
    by_cases hlt : k < s.size
    · have hdc := drop_cons s k hlt
      have hcc : ∃ c, s[k]'hlt = c := ⟨_, rfl⟩
      obtain ⟨c, hc⟩ := hcc
      rw [hc] at hdc
      by_cases h37 : c.toNat = 37
      · obtain rfl := c37 h37
        have hck : ((s[k]'hlt).toNat : Int) = 37 := by rw [hc]; rfl
        have b37 : (((37 : UInt8).toNat : Int) == 37) = true := by rfl
        by_cases h2 : ∃ h : k + 1 < s.size, (s[k + 1]'h).toNat = 37
        · obtain ⟨hlt2, h37b⟩ := h2
          have hd1 : decide ((k : Int) + 1 < (s.size : Int)) = true := by simp; omega
          have HT2 : Hid (pcsT (s.data.toList.drop (k + 1 + 1)) out (a ++ [37]) = pcsT s.data.toList [] []) := by
            show _ = _
            rw [← HT.out, hdc, drop_cons s (k + 1) hlt2, c37 h37b, pcsT_two]
          have b37b : (((s[k + 1]'hlt2).toNat : Int) == 37) = true := by simp; omega
          clear hdc h37b
          have HP2 := Lib.hid (HP.out.alloc (.cells #[.int .u8 37] 5))
          have HO := Lib.hid HP2.out.2.2.2.1
          have HLN : Hid (out.length + (flushP (a ++ [37])).length ≤ k + 1 + 1 ∧ (a ++ [37]).length ≤ k + 1 + 1) := by
            have h1 := HL.out
            have h2 := flushP_le (a ++ [37])
            have h3 : (a ++ [37]).length = a.length + 1 := by simp
            exact ⟨by omega, by omega⟩
          go_wp2_with (first | (at_builtin; refine wpList_append_lies _ rfl _ _ 52 rfl (w.heap.size + 2) 5 j0 _ 1 1 Tryz.underlying52 hj0 hy0 hy1 hy2 rfl (by omega) (.slice xu a.length cu) a.length (u8s a) rfl HO.out ⟨wr.heap.size, 0, none⟩ 1 1 [.int .u8 37] rfl (by rfl) (World.news_of_block (cs := #[.int .u8 37]) (t := 5) (fr := (0, 0)) (heap_alloc_new wr _)) (by simp [Value.oneCell']) (by omega) (by unfold maxLen; omega) (by omega) (by simp; omega) _ rfl ?_; intro gg cap w1 ho1 hg1 hl1 hlt1; have HO1 := Lib.hid ho1; have HG1 := Lib.hid hg1; have HL1 := Lib.hid hl1; obtain ⟨d1, d2, e1, e2⟩ := grown_cells HP2.out hg1 (fun j hj => (HUB.out j hj).1); clear ho1 hg1 hl1))
          refine ⟨⟨k + 1 + 1, out, a ++ [37], _, _, by omega, by go_num, HT2.out, HLN.out, HP2.out.addT HO1.out HG1.out HL1.out⟩, by simp [intOf]; omega⟩
        · have hh : ((s.data.toList.drop (k + 1)).head?.map UInt8.toNat) ≠ some 37 := by
            intro e
            by_cases h : k + 1 < s.size
            · rw [drop_cons s (k + 1) h] at e
              simp at e
              exact h2 ⟨h, e⟩
            · rw [List.drop_eq_nil_of_le (by omega)] at e
              simp at e
          have hcase : (decide ((k : Int) + 1 < (s.size : Int)) = false) ∨ (∃ h : k + 1 < s.size, decide ((k : Int) + 1 < (s.size : Int)) = true ∧ (((s[k + 1]'h).toNat : Int) == 37) = false) := by
            by_cases h : k + 1 < s.size
            · right
              refine ⟨h, by simp; omega, ?_⟩
              rw [beq_eq_false_iff_ne]
              intro e
              exact h2 ⟨h, by omega⟩
            · left; simp; omega
          clear h2
          cases hdir : dirT (s.data.toList.drop (k + 1)) with
          | none =>
            have HT2 : Hid (pcsT s.data.toList [] [] = none) := by show _ = _; rw [← HT.out, hdc, pcsT_bad hh hdir]
            have HDC : Hid (∀ w', Calls Tryz.prog 28 #[.string s, .int .i64 ((k : Int) + 1)] w' fun e w'' => e = .returned (dirV (k + 1) none) ∧ Below w'.heap.size w' w'') := fun w' => by have h := HDR.out (k + 1) w' (by omega); rw [hdir] at h; exact h
            unfold dirV at HDC
            clear hdc hh hdir
            rcases hcase with hd | ⟨h1, hd, hd2⟩
            all_goals
              go_wp2_with (first | (go_at_call 28; (with_reducible refine (HDC.out _).mono ?_); rintro e w1 ⟨rfl, hb1⟩; have HB1 := Lib.hid hb1; clear hb1))
              go_returns
              refine ⟨?_, ?_⟩
              · rw [HT2.out]; rfl
              · have h0 := HP.out.2.2.2.2.2.trans (HB1.out.mono (by omega))
                have hz0 := h0.size
                (repeat' (first | (with_reducible exact Below.refl _ _) | (with_reducible assumption) | (with_reducible refine Below.alloc ?_ ?_ _) | (with_reducible refine below_drewN ?_ _) | (with_reducible refine Below.drew ?_) | (with_reducible refine Below.setCell ?_ ?_ _) | (with_reducible refine below_via (by assumption) ?_ ?_) | (with_reducible refine below_via (later_below _) ?_ ?_) | (with_reducible exact Nat.le_refl _) | omega | (simp; omega) | (simp; done)))
          | some y =>
            obtain ⟨x, n⟩ := y
            have hok := dirT_ok hdir
            dsimp only at hok
            obtain ⟨o1, o2, -, o4, -⟩ := hok
            rw [List.length_drop] at o2
            have HT2 : Hid (pcsT (s.data.toList.drop (k + 1 + n)) (out ++ flushP a ++ [x]) [] = pcsT s.data.toList [] []) := by
              show _ = _
              rw [← HT.out, hdc, pcsT_dir hh hdir, List.drop_drop]
            have HDC : Hid (∀ w', Calls Tryz.prog 28 #[.string s, .int .i64 ((k : Int) + 1)] w' fun e w'' => e = .returned (dirV (k + 1) (some (x, n))) ∧ Below w'.heap.size w' w'') := fun w' => by have h := HDR.out (k + 1) w' (by omega); rw [hdir] at h; exact h
            unfold dirV at HDC
            dsimp only at HDC
            have HLN : Hid ((out ++ flushP a ++ [x]).length + (flushP []).length ≤ k + 1 + n ∧ ([] : List UInt8).length ≤ k + 1 + n) := by
              have h1 := HL.out
              refine ⟨?_, by simp⟩
              rw [List.length_append, List.length_append, show (flushP []).length = 0 from rfl]
              simp; omega
            have hL3 : (out ++ flushP a).length ≤ 200000 := by have := HL.out.1; rw [List.length_append]; omega
            obtain ⟨Q, hQ⟩ : ∃ Q, out ++ flushP a = Q := ⟨_, rfl⟩
            have HQ := Lib.hid hQ
            rw [hQ] at HT2 HLN hL3
            clear hQ
            have hnk : k + 1 + n ≤ s.size := by omega
            obtain ⟨xt, xV, xmi, xze, xpl, xW, xN⟩ := x
            dsimp only at o4 HDC
            subst o4
            clear hdc hh hdir o2
            rcases hcase with hd | ⟨h1, hd, hd2⟩
            all_goals
              go_wp2_with (first | (go_at_call 28; (with_reducible refine (HDC.out _).mono ?_); rintro e w1 ⟨rfl, hb1⟩; have HB1 := Lib.hid hb1; have HPb := Lib.hid ((HP.out.later hb1).alloc (.cells #[.string ⟨#[]⟩, .int .u8 xV, .bool xmi, .bool xze, .bool xpl, .int .i64 xW, .int .i64 xN] 31)); clear hb1) | (go_at_call 27; (with_reducible refine (HFL.out _ _ _ _ _ HPb.out ?_ ?_).mono ?_); (focus omega); (focus omega); rintro e w2 ⟨rfl, ⟨v3, u3, hp3⟩, hsz3, hk3⟩; have HP3 := Lib.hid (hp3.eq HQ.out rfl); clear hp3; obtain ⟨g1, g2, g3, g4⟩ := HP3.out.cells; have hB3 := HP3.out.lt; obtain ⟨xv3, cv3, rfl⟩ := own_form HP3.out.2.2.1; obtain ⟨xu3, cu3, rfl⟩ := own_form HP3.out.2.2.2.1; have HV3 : Hid (∀ j, (Value.slice xv3 Q.length cv3).ownBlock = some j → w.heap.size + 2 ≤ j) := fun j hj => (HP3.out.2.2.1.lt j hj).1; obtain ⟨q0, q1, q2, q3, q4, q5, q6⟩ := box_cells (T := 31) ((hk3 w1.heap.size (by simp) (by have := HB1.out.size; omega) (by have := HB1.out.size; omega) (fun e => by have := (HVB.out _ e).2; have := HB1.out.size; omega)).trans (heap_alloc_new w1 _))) | (at_builtin; refine wpList_append_lies _ rfl _ _ 23 rfl (w.heap.size + 2) 31 i0 _ 7 40 Tryz.underlying23 hi0 hz0 hz1 hz2 rfl (by omega) (.slice xv3 Q.length cv3) Q.length (flatPc Q) rfl (HP3.out.alloc _).2.2.1 ⟨w2.heap.size, 0, none⟩ 1 1 (pcC (Pc.mk [] xV xmi xze xpl xW xN)) rfl (by rfl) (World.news_of_block (cs := (pcC (Pc.mk [] xV xmi xze xpl xW xN)).toArray) (t := 31) (fr := (0, 0)) (heap_alloc_new w2 _)) (pcC_one _) (by omega) (by unfold maxLen; omega) (by omega) (by simp; omega) _ rfl ?_; intro gg cap w3 ho1 hg1 hl1 hlt1; have HO1 := Lib.hid ho1; have HG1 := Lib.hid hg1; have HL1 := Lib.hid hl1; obtain ⟨d1, d2, e1, e2⟩ := grown_cells (HP3.out.alloc _) hg1 HV3.out; clear ho1 hg1 hl1))
              refine ⟨⟨k + 1 + n, Q ++ [Pc.mk [] xV xmi xze xpl xW xN], [], _, _, by omega, by go_num, HT2.out, HLN.out, (HP3.out.alloc _).addO HO1.out HG1.out HL1.out⟩, by simp [intOf]; omega⟩
      · have b37 : ((c.toNat : Int) == 37) = false := by simp; omega
        have b37' : ((c.toNat : Int) != 37) = true := by simp; omega
        have HT2 : Hid (pcsT (s.data.toList.drop (k + 1)) out (a ++ [c]) = pcsT s.data.toList [] []) := by show _ = _; rw [← HT.out, hdc, pcsT_ch h37]
        clear hdc h37
        have HP2 := Lib.hid (HP.out.later (((Below.refl _ _).alloc (Nat.le_refl _) (.cells #[.int .u8 (c.toNat : Int)] 5)).drew))
        have HO := Lib.hid HP2.out.2.2.2.1
        have HLN : Hid (out.length + (flushP (a ++ [c])).length ≤ k + 1 ∧ (a ++ [c]).length ≤ k + 1) := by
          have h1 := HL.out
          have h2 := flushP_le (a ++ [c])
          have h3 : (a ++ [c]).length = a.length + 1 := by simp
          exact ⟨by omega, by omega⟩
        go_wp2_with fail
        go_region_law
          ((refine step_append_lies _ (by rfl) _ _ _ (by rfl) (w.heap.size + 2) 5 j0 _ 1 1 Tryz.underlying52 hj0 hy0 hy1 hy2 rfl (by omega) (.slice xu a.length cu) a.length (u8s a) (by rfl) HO.out ⟨wr.heap.size, 0, none⟩ 1 1 [.int .u8 c.toNat] (by rfl) (by rfl) (World.news_of_block (cs := #[.int .u8 c.toNat]) (t := 5) (fr := (0, 0)) (heap_alloc_new wr _)) (by simp [Value.oneCell'])
                (by omega) (by unfold maxLen; omega) (by omega) (by simp; omega) wr.heap.size.succ (by simp) ?_; intro gg cap w1 ho1 hg1 hl1 hlt1; have HO1 := Lib.hid ho1; have HG1 := Lib.hid hg1; have HL1 := Lib.hid hl1; obtain ⟨d1, d2, e1, e2⟩ := grown_cells HP2.out hg1 (fun j hj => (HUB.out j hj).1); clear ho1 hg1 hl1))
        all_goals
          go_wp2_with fail
          refine ⟨⟨k + 1, out, a ++ [c], _, _, by omega, by go_num, HT2.out, HLN.out, HP2.out.addT HO1.out HG1.out (HL1.out.imp id (fun e => e.trans (by simp)))⟩, by simp [intOf]; omega⟩
    · obtain rfl : k = s.size := by omega
      have hd0 : decide ((s.size : Int) < (s.size : Int)) = false := by simp
      have HT2 : Hid (pcsT s.data.toList [] [] = some (out ++ flushP a)) := by show _ = _; rw [← HT.out, List.drop_eq_nil_of_le (by omega), pcsT_nil]
      clear hlt
      obtain ⟨Q, hQ⟩ : ∃ Q, out ++ flushP a = Q := ⟨_, rfl⟩
      have HQ := Lib.hid hQ
      rw [hQ] at HT2
      clear hQ
      go_wp2_with (first | (go_at_call 27; (with_reducible refine (HFL.out _ _ _ _ _ HP.out ?_ ?_).mono ?_); (focus omega); (focus omega); rintro e w2 ⟨rfl, ⟨v3, u3, hp3⟩, hsz3, hk3⟩; have HP3 := Lib.hid (hp3.eq HQ.out rfl); clear hp3; obtain ⟨g1, g2, g3, g4⟩ := HP3.out.cells; have hB3 := HP3.out.lt; obtain ⟨xv3, cv3, rfl⟩ := own_form HP3.out.2.2.1; obtain ⟨xu3, cu3, rfl⟩ := own_form HP3.out.2.2.2.1))
      go_returns
      refine ⟨?_, HP3.out.2.2.2.2.2⟩
      rw [HT2.out]
      exact ⟨_, rfl, ownsRow_base HP3.out.2.2.1 (by omega)⟩
end Go.Proofs.YtemlijadhdejeaaGreatDoor
