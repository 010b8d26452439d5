/- The number of statements and expressions of a tree, and the reference's Size. -/
import Derived.Test.YtplphejillkdeaaGreatDoorMTrData
import Derived.Test.YtplphejillkdeaaGreatDoorRows
import Derived.Shelf.Abstract
import Derived.Deep.RegionHeld3
namespace Go.Proofs.YtplphejillkdeaaGreatDoor
open Go.RowKit Go.Instr
set_option linter.unusedVariables false

mutual
/-- Statements and expressions. -/
def szX : TX → Nat
  | ⟨_, _, _, _, _, _, _, _, args, _, _, funcs⟩ => 1 + szXs args + szFs funcs
def szXs : List TX → Nat
  | [] => 0
  | x :: l => szX x + szXs l
def szF : TF → Nat
  | ⟨_, _, _, _, _, _, _, body, _⟩ => szSs body
def szFs : List TF → Nat
  | [] => 0
  | x :: l => szF x + szFs l
def szS : TS → Nat
  | ⟨_, _, _, _, _, _, _, left, _, _, right, _, _, blocks, _⟩ => 1 + szXs left + szXs right + szBs blocks
def szSs : List TS → Nat
  | [] => 0
  | x :: l => szS x + szSs l
def szB : TB → Nat
  | ⟨_, _, l⟩ => szSs l
def szBs : List TB → Nat
  | [] => 0
  | x :: l => szB x + szBs l
end
theorem szX_eq (x : TX) : szX x = 1 + szXs x.args + szFs x.funcs := by cases x; rfl
theorem szF_eq (x : TF) : szF x = szSs x.body := by cases x; rfl
theorem szS_eq (x : TS) : szS x = 1 + szXs x.left + szXs x.right + szBs x.blocks := by cases x; rfl
theorem szB_eq (x : TB) : szB x = szSs x.l := by cases x; rfl
theorem szXs_app : ∀ l r : List TX, szXs (l ++ r) = szXs l + szXs r
  | [], r => by show szXs r = 0 + szXs r; omega
  | x :: l, r => by show szX x + szXs (l ++ r) = szX x + szXs l + szXs r; rw [szXs_app l r]; omega
theorem szFs_app : ∀ l r : List TF, szFs (l ++ r) = szFs l + szFs r
  | [], r => by show szFs r = 0 + szFs r; omega
  | x :: l, r => by show szF x + szFs (l ++ r) = szF x + szFs l + szFs r; rw [szFs_app l r]; omega
theorem szSs_app : ∀ l r : List TS, szSs (l ++ r) = szSs l + szSs r
  | [], r => by show szSs r = 0 + szSs r; omega
  | x :: l, r => by show szS x + szSs (l ++ r) = szS x + szSs l + szSs r; rw [szSs_app l r]; omega
theorem szBs_app : ∀ l r : List TB, szBs (l ++ r) = szBs l + szBs r
  | [], r => by show szBs r = 0 + szBs r; omega
  | x :: l, r => by show szB x + szBs (l ++ r) = szB x + szBs l + szBs r; rw [szBs_app l r]; omega
theorem szXs_succ {l : List TX} {k : Nat} (h : k < l.length) : szXs (l.take (k + 1)) = szXs (l.take k) + szX l[k] := by
  rw [List.take_succ_eq_append_getElem h, szXs_app]; show _ + (szX _ + 0) = _; omega
theorem szFs_succ {l : List TF} {k : Nat} (h : k < l.length) : szFs (l.take (k + 1)) = szFs (l.take k) + szF l[k] := by
  rw [List.take_succ_eq_append_getElem h, szFs_app]; show _ + (szF _ + 0) = _; omega
theorem szSs_succ {l : List TS} {k : Nat} (h : k < l.length) : szSs (l.take (k + 1)) = szSs (l.take k) + szS l[k] := by
  rw [List.take_succ_eq_append_getElem h, szSs_app]; show _ + (szS _ + 0) = _; omega
theorem szBs_succ {l : List TB} {k : Nat} (h : k < l.length) : szBs (l.take (k + 1)) = szBs (l.take k) + szB l[k] := by
  rw [List.take_succ_eq_append_getElem h, szBs_app]; show _ + (szB _ + 0) = _; omega

/-- Lists of nodes as they are handed about. -/
def XsOk (w : World) (N : Nat) (a : Option Addr) (c : Nat) (l : List TX) : Prop := Slc a l.length c ∧ XsAt w N a l ∧ InXs w N l
def FsOk (w : World) (N : Nat) (a : Option Addr) (c : Nat) (l : List TF) : Prop := Slc a l.length c ∧ FsAt w N a l ∧ InFs w N l
def SsOk (w : World) (N : Nat) (a : Option Addr) (c : Nat) (l : List TS) : Prop := Slc a l.length c ∧ SsAt w N a l ∧ InSs w N l
def BsOk (w : World) (N : Nat) (a : Option Addr) (c : Nat) (l : List TB) : Prop := Slc a l.length c ∧ BsAt w N a l ∧ InBs w N l
theorem XsOk.still {N M : Nat} {w w' : World} {a : Option Addr} {c : Nat} {l : List TX} (h : XsOk w N a c l) (hs : Still N w w') (hM : N ≤ M) : XsOk w' M a c l := ⟨h.1, h.2.1.still (x8_still hs) hM, h.2.2.still hs hM⟩
theorem FsOk.still {N M : Nat} {w w' : World} {a : Option Addr} {c : Nat} {l : List TF} (h : FsOk w N a c l) (hs : Still N w w') (hM : N ≤ M) : FsOk w' M a c l := ⟨h.1, h.2.1.still (f5_still hs) hM, h.2.2.still hs hM⟩
theorem SsOk.still {N M : Nat} {w w' : World} {a : Option Addr} {c : Nat} {l : List TS} (h : SsOk w N a c l) (hs : Still N w w') (hM : N ≤ M) : SsOk w' M a c l := ⟨h.1, h.2.1.still (s7_still hs) hM, h.2.2.still hs hM⟩
theorem BsOk.still {N M : Nat} {w w' : World} {a : Option Addr} {c : Nat} {l : List TB} (h : BsOk w N a c l) (hs : Still N w w') (hM : N ≤ M) : BsOk w' M a c l := ⟨h.1, h.2.1.still (b1_still hs) hM, h.2.2.still hs hM⟩
section
variable {w : World} {N : Nat}
theorem InX.xs {x : TX} (h : InX w N x) : XsOk w N x.aA x.aC x.args := have h := (inX_iff x).1 h; ⟨h.1.ai, h.1.aAt, h.2.1⟩
theorem InX.fs {x : TX} (h : InX w N x) : FsOk w N x.fA x.fC x.funcs := have h := (inX_iff x).1 h; ⟨h.1.fi, h.1.fAt, h.2.2⟩
theorem InF.ss {x : TF} (h : InF w N x) : SsOk w N x.bA x.bC x.body := have h := (inF_iff x).1 h; ⟨h.1.bi, h.1.bAt, h.2⟩
theorem InS.lf {x : TS} (h : InS w N x) : XsOk w N x.lA x.lC x.left := have h := (inS_iff x).1 h; ⟨h.1.li, h.1.lAt, h.2.1⟩
theorem InS.rt {x : TS} (h : InS w N x) : XsOk w N x.rA x.rC x.right := have h := (inS_iff x).1 h; ⟨h.1.ri, h.1.rAt, h.2.2.1⟩
theorem InS.bs {x : TS} (h : InS w N x) : BsOk w N x.bA x.bC x.blocks := have h := (inS_iff x).1 h; ⟨h.1.bi, h.1.bAt, h.2.2.2⟩
theorem InB.ss {x : TB} (h : InB w N x) : SsOk w N x.a x.c x.l := have h := (inB_iff x).1 h; ⟨h.1.li, h.1.lAt, h.2⟩
theorem XsOk.at_ {a : Option Addr} {c : Nat} {l : List TX} (h : XsOk w N a c l) {k : Nat} (hk : k < l.length) : ∃ b o, a = some ⟨b, o, none⟩ ∧ b < N ∧ X8 w b (o + k * 8) l[k] ∧ InX w N l[k] := by
  rcases h.2.1 with h0 | ⟨b, o, h1, h2, h3⟩
  · omega
  · exact ⟨b, o, h1, h2, h3 k hk, (inXs_iff l).1 h.2.2 _ (List.getElem_mem hk)⟩
theorem FsOk.at_ {a : Option Addr} {c : Nat} {l : List TF} (h : FsOk w N a c l) {k : Nat} (hk : k < l.length) : ∃ b o, a = some ⟨b, o, none⟩ ∧ b < N ∧ F5 w b (o + k * 5) l[k] ∧ InF w N l[k] := by
  rcases h.2.1 with h0 | ⟨b, o, h1, h2, h3⟩
  · omega
  · exact ⟨b, o, h1, h2, h3 k hk, (inFs_iff l).1 h.2.2 _ (List.getElem_mem hk)⟩
theorem SsOk.at_ {a : Option Addr} {c : Nat} {l : List TS} (h : SsOk w N a c l) {k : Nat} (hk : k < l.length) : ∃ b o, a = some ⟨b, o, none⟩ ∧ b < N ∧ S7 w b (o + k * 7) l[k] ∧ InS w N l[k] := by
  rcases h.2.1 with h0 | ⟨b, o, h1, h2, h3⟩
  · omega
  · exact ⟨b, o, h1, h2, h3 k hk, (inSs_iff l).1 h.2.2 _ (List.getElem_mem hk)⟩
theorem BsOk.at_ {a : Option Addr} {c : Nat} {l : List TB} (h : BsOk w N a c l) {k : Nat} (hk : k < l.length) : ∃ b o, a = some ⟨b, o, none⟩ ∧ b < N ∧ B1 w b (o + k) l[k] ∧ InB w N l[k] := by
  rcases h.2.1 with h0 | ⟨b, o, h1, h2, h3⟩
  · omega
  · have := h3 k hk
    rw [Nat.mul_one] at this
    exact ⟨b, o, h1, h2, this, (inBs_iff l).1 h.2.2 _ (List.getElem_mem hk)⟩
end
theorem still_drewN (N : Nat) (w : World) (n : Nat) : Still N w (w.drewN n) := fun _ _ => rfl
theorem wrap_add (a b : Int) : wrap64 (wrap64 a + b) = wrap64 (a + b) := by unfold wrap64; omega
theorem wrap_add2 (a b : Int) : wrap64 (wrap64 a + wrap64 b) = wrap64 (a + b) := by unfold wrap64; omega
theorem wrap0 : wrap64 0 = 0 := by unfold wrap64; omega
theorem wrap_wrap (a : Int) : wrap64 (wrap64 a) = wrap64 a := by unfold wrap64; omega

end Go.Proofs.YtplphejillkdeaaGreatDoor

/- Callbacks: what a function value that is handed about may turn, and what its caller knows behind it. -/
namespace Go.Proofs.YtplphejillkdeaaGreatDoor
open Go.RowKit Go.Instr
set_option linter.unusedVariables false

/-- Below block a nothing has turned, and no cells from block b on, other than those of a block whose first cell is a string (a row of functions). -/
structure Kept (a b : Nat) (w w' : World) : Prop where
  os : w'.os = w.os
  tape : w'.tape = w.tape
  output : w'.output = w.output
  size : w.heap.size ≤ w'.heap.size
  old : ∀ g, g < a → w'.heap[g]? = w.heap[g]?
  new : ∀ (g : Nat) c t f, b ≤ g → (∀ s, c[0]? ≠ some (.string s)) → w.heap[g]? = some (.cells c t f) → w'.heap[g]? = some (.cells c t f)
theorem Kept.refl (a b : Nat) (w : World) : Kept a b w w := ⟨rfl, rfl, rfl, Nat.le_refl _, fun _ _ => rfl, fun _ _ _ _ _ _ h => h⟩
theorem Kept.trans {a b : Nat} {u v w : World} (h : Kept a b u v) (k : Kept a b v w) : Kept a b u w :=
  ⟨k.os.trans h.os, k.tape.trans h.tape, k.output.trans h.output, Nat.le_trans h.size k.size, fun g hg => (k.old g hg).trans (h.old g hg), fun g c t f hg hs hc => k.new g c t f hg hs (h.new g c t f hg hs hc)⟩
theorem Kept.mono {a b a' b' : Nat} {u v : World} (h : Kept a b u v) (ha : a' ≤ a) (hb : b ≤ b') : Kept a' b' u v :=
  ⟨h.os, h.tape, h.output, h.size, fun g hg => h.old g (by omega), fun g c t f hg hs hc => h.new g c t f (by omega) hs hc⟩
theorem kept_of {a b : Nat} {w w' : World} (h : Below w.heap.size w w') (ha : a ≤ w.heap.size) : Kept a b w w' :=
  ⟨h.os, h.tape, h.output, h.size, fun g hg => h.block g (by omega), fun g c t f _ _ hc => (h.block g (Array.getElem?_eq_some_iff.1 hc).1).trans hc⟩
theorem Kept.below {a b : Nat} {w w' : World} (h : Kept a b w w') : Below a w w' := ⟨h.os, h.tape, h.output, h.size, h.old⟩
theorem Kept.still {a b N : Nat} {w w' : World} (h : Kept a b w w') (hN : N ≤ a) : Still N w w' := fun g hg => h.old g (by omega)
theorem block_of_cell {w : World} {b o : Nat} {v : Value} (h : w.cell? ⟨b, o, none⟩ = some v) : ∃ c t f, w.heap[b]? = some (.cells c t f) := by
  unfold World.cell? at h
  cases hb : w.heap[b]? with
  | none => rw [hb] at h; simp at h
  | some x =>
    rw [hb] at h
    cases x with
    | cells c t f => exact ⟨c, t, f, rfl⟩
    | _ => simp at h
theorem Kept.cell {a b : Nat} {w w' : World} (h : Kept a b w w') {n o : Nat} {u v : Value} (h0 : w.cell? ⟨n, 0, none⟩ = some u) (hc : w.cell? ⟨n, o, none⟩ = some v) (hn : b ≤ n) (hu : ∀ s, u ≠ .string s := by intro s e; cases e) : w'.cell? ⟨n, o, none⟩ = some v := by
  obtain ⟨c, t, f, hb⟩ := block_of_cell hc
  have hs : ∀ s, c[0]? ≠ some (.string s) := fun s e => by
    simp [World.cell?, hb, e] at h0
    exact hu s h0.symm
  have e : w'.heap[n]? = w.heap[n]? := (h.new n c t f hn hs hb).trans hb.symm
  exact (World.cell?_of_block (w := w) e).trans hc

/-- The function value f, called with these arguments. -/
def CB (f : Value) (args : Array Value) (W : World) (R : Ending → World → Prop) : Prop :=
  ∃ g fi cp, f = .func (.func g) fi cp ∧ (∀ args u, (callFunc g args).run Tryz.prog u = .ok (.enter g args) u) ∧ Calls Tryz.prog g (fi ++ args ++ cp) W R
/-- A way out that is no 'true'. -/
def Bad (e : Ending) : Prop := e = .returned (.bool false) ∨ ∃ ch, e = .panicked ch
/-- 'true', and the state goes on; or another way out. -/
def RJ (a b : Nat) (T : World → Prop) (X : Ending → World → Prop) (W : World) : Ending → World → Prop :=
  fun e W' => (e = .returned (.bool true) ∧ T W' ∧ Kept a b W W') ∨ (Bad e ∧ X e W')
theorem CB.form {f : Value} {args : Array Value} {W : World} {R : Ending → World → Prop} (h : CB f args W R) : ∃ g fi cp, f = .func (.func g) fi cp := by
  obtain ⟨g, fi, cp, h1, -⟩ := h
  exact ⟨g, fi, cp, h1⟩

theorem CB.calls {g : Nat} {fi cp args : Array Value} {W : World} {R : Ending → World → Prop} (h : CB (.func (.func g) fi cp) args W R) : Calls Tryz.prog g (fi ++ args ++ cp) W R := by
  obtain ⟨g', fi', cp', h1, -, h3⟩ := h
  injection h1 with e1 e2 e3
  injection e1 with e1
  subst e1 e2 e3
  exact h3

theorem CB.calls1 {g : Nat} {fi cp : Array Value} {v : Value} {W : World} {R : Ending → World → Prop} (h : CB (.func (.func g) fi cp) #[v] W R) : Calls Tryz.prog g (fi.push v ++ cp) W R := by
  have h := h.calls
  exact h
theorem CB.calls2 {g : Nat} {fi cp : Array Value} {u v : Value} {W : World} {R : Ending → World → Prop} (h : CB (.func (.func g) fi cp) #[u, v] W R) : Calls Tryz.prog g ((fi.push u).push v ++ cp) W R := by
  have h := h.calls
  exact h

set_option maxHeartbeats 1600000 in
/-- 'for each expression: if !expr(e), return false'. -/
theorem stats1_any (a b p : Nat) (J : Nat → World → Prop) (X : Ending → World → Prop) (fe : Value) (l : List TX) (A : Option Addr) (c B : Nat) (w : World)
    (hok : XsOk w a A c l) (hab : a ≤ b) (hB : b ≤ B) (hbox : w.cell? ⟨B, 0, none⟩ = some fe)
    (hfe : ∃ g fi cp, fe = .func (.func g) fi cp ∧ (∀ args u, (callFunc g args).run Tryz.prog u = .ok (.enter g args) u))
    (hJ : ∀ j W W', J j W → Below W.heap.size W W' → J j W')
    (H : ∀ j (h : j < l.length) W, J (p + j) W → CB fe #[(l[j]).v] W (RJ a b (J (p + (j + 1))) X W))
    (h0 : J p w) :
    Calls Tryz.prog 56 #[.slice A l.length c, .pointer (some ⟨B, 0, none⟩)] w (RJ a b (J (p + l.length)) X w) := by
  obtain ⟨g, fi, cp, rfl, hg⟩ := hfe
  have HO := Lib.hid hok
  obtain ⟨hn1, hn2, hn3⟩ := hok.1
  have hn : (l.length : Int) ≤ 9223372036854775807 := by omega
  have HJ := Lib.hid hJ
  have HH := Lib.hid H
  have H0 := Lib.hid h0
  have hbw := cell_lt hbox
  clear hok hJ H h0 hn3
  go_enter Tryz.func56, Tryz.ntmps56
  go_wp2_with fail
  go_loopw [8] (fun i wr => ∃ k : Nat, k ≤ l.length ∧ i = .int .i64 k ∧ Hid (J (p + k) wr) ∧ Hid (Kept a b w wr)) (fun i _ => l.length - (intOf i).toNat)
  case atStart => exact ⟨0, Nat.zero_le _, rfl, H0.out, Kept.refl _ _ _⟩
  case round =>
    obtain ⟨k, hk, rfl, HK, HE⟩ := hrel
    by_cases hlt : k < l.length
    · obtain ⟨b1, o, rfl, hb, hc, hin⟩ := (HO.out.still (HE.out.still (Nat.le_refl _)) (Nat.le_refl _)).at_ hlt
      have hbx := HE.out.cell hbox hbox hB
      have hsz := HE.out.size
      obtain ⟨x, hx⟩ : ∃ x, l[k] = x := ⟨_, rfl⟩
      have HC := Lib.hid (fun W => hx ▸ HH.out k hlt W)
      rw [hx] at hc
      obtain ⟨c0, c1, c2, c3, c4, c5, c6, c7⟩ := hc
      have hbl := cell_lt c0
      clear hin hx hb
      go_wp2_with (go_at_fn g; (with_reducible refine (HC.out _ (HJ.out _ wr _ HK.out ?_)).calls1.mono ?_); (focus ((repeat' (first | (with_reducible exact Below.refl _ _) | (with_reducible assumption) | (with_reducible refine Below.alloc ?_ ?_ _) | (with_reducible refine below_drewN ?_ _) | (with_reducible refine Below.drew ?_) | (with_reducible refine Below.setCell ?_ ?_ _) | (with_reducible refine below_via (by assumption) ?_ ?_) | (with_reducible refine below_via (later_below _) ?_ ?_) | (with_reducible exact Nat.le_refl _) | omega | (simp; omega) | (simp; done))))); rintro e w1 (⟨rfl, hT, hk1⟩ | ⟨rfl | ⟨ch, rfl⟩, hX⟩))
      · exact ⟨⟨k + 1, by omega, by go_num, hT, HE.out.trans ((kept_of (by (repeat' (first | (with_reducible exact Below.refl _ _) | (with_reducible assumption) | (with_reducible refine Below.alloc ?_ ?_ _) | (with_reducible refine below_drewN ?_ _) | (with_reducible refine Below.drew ?_) | (with_reducible refine Below.setCell ?_ ?_ _) | (with_reducible refine below_via (by assumption) ?_ ?_) | (with_reducible refine below_via (later_below _) ?_ ?_) | (with_reducible exact Nat.le_refl _) | omega | (simp; omega) | (simp; done)))) (by omega)).trans hk1)⟩, by simp [intOf]; omega⟩
      · go_returns
        exact .inr ⟨.inl rfl, hX⟩
      · exact ⟨rfl, .inr ⟨.inr ⟨ch, rfl⟩, hX⟩⟩
    · obtain rfl : k = l.length := by omega
      go_wp2_with fail
      go_returns
      exact .inl ⟨rfl, HK.out, HE.out⟩

set_option maxHeartbeats 1600000 in
/-- 'for each block: if !block(b), return false'. -/
theorem stats2_any (a b p : Nat) (J : Nat → World → Prop) (X : Ending → World → Prop) (fe : Value) (l : List TB) (A : Option Addr) (c B : Nat) (w : World)
    (hok : BsOk w a A c l) (hab : a ≤ b) (hB : b ≤ B) (hbox : w.cell? ⟨B, 0, none⟩ = some fe)
    (hfe : ∃ g fi cp, fe = .func (.func g) fi cp ∧ (∀ args u, (callFunc g args).run Tryz.prog u = .ok (.enter g args) u))
    (H : ∀ j (h : j < l.length) W, J (p + j) W → CB fe #[(l[j]).v] W (RJ a b (J (p + (j + 1))) X W))
    (h0 : J p w) :
    Calls Tryz.prog 57 #[.slice A l.length c, .pointer (some ⟨B, 0, none⟩)] w (RJ a b (J (p + l.length)) X w) := by
  obtain ⟨g, fi, cp, rfl, hg⟩ := hfe
  have HO := Lib.hid hok
  obtain ⟨hn1, hn2, hn3⟩ := hok.1
  have hn : (l.length : Int) ≤ 9223372036854775807 := by omega
  have HH := Lib.hid H
  have H0 := Lib.hid h0
  have hbw := cell_lt hbox
  clear hok H h0 hn3
  go_enter Tryz.func57, Tryz.ntmps57
  go_wp2_with fail
  go_loopw [8] (fun i wr => ∃ k : Nat, k ≤ l.length ∧ i = .int .i64 k ∧ Hid (J (p + k) wr) ∧ Hid (Kept a b w wr)) (fun i _ => l.length - (intOf i).toNat)
  case atStart => exact ⟨0, Nat.zero_le _, rfl, H0.out, Kept.refl _ _ _⟩
  case round =>
    obtain ⟨k, hk, rfl, HK, HE⟩ := hrel
    by_cases hlt : k < l.length
    · obtain ⟨b1, o, rfl, hb, hc, hin⟩ := (HO.out.still (HE.out.still (Nat.le_refl _)) (Nat.le_refl _)).at_ hlt
      have hbx := HE.out.cell hbox hbox hB
      have hsz := HE.out.size
      obtain ⟨x, hx⟩ : ∃ x, l[k] = x := ⟨_, rfl⟩
      have HC := Lib.hid (fun W => hx ▸ HH.out k hlt W)
      rw [hx] at hc
      have c0 : wr.cell? ⟨b1, o + k, none⟩ = some (.slice x.a x.l.length x.c) := hc
      have hbl := cell_lt c0
      clear hin hx hb hc
      go_wp2_with (go_at_fn g; (with_reducible refine (HC.out _ HK.out).calls1.mono ?_); rintro e w1 (⟨rfl, hT, hk1⟩ | ⟨rfl | ⟨ch, rfl⟩, hX⟩))
      · exact ⟨⟨k + 1, by omega, by go_num, hT, HE.out.trans hk1⟩, by simp [intOf]; omega⟩
      · go_returns
        exact .inr ⟨.inl rfl, hX⟩
      · exact ⟨rfl, .inr ⟨.inr ⟨ch, rfl⟩, hX⟩⟩
    · obtain rfl : k = l.length := by omega
      go_wp2_with fail
      go_returns
      exact .inl ⟨rfl, HK.out, HE.out⟩
end Go.Proofs.YtplphejillkdeaaGreatDoor

/- The program's stats: the parts of a statement, one after the other, until a callback says no. -/
namespace Go.Proofs.YtplphejillkdeaaGreatDoor
open Go.RowKit Go.Instr
set_option linter.unusedVariables false

/-- An if's conditions and blocks, by turns. -/
def zipP : List TX → List TB → List (TX ⊕ TB)
  | x :: r, y :: b => .inl x :: .inr y :: zipP r b
  | [], b => b.map .inr
  | r, [] => r.map .inl
/-- The parts of a statement in the order of the text. -/
def partsS (s : TS) : List (TX ⊕ TB) :=
  s.left.map .inl ++ (if s.k = 7 then s.blocks.map .inr ++ s.right.map .inl else if s.k = 8 then zipP s.right s.blocks else s.right.map .inl ++ s.blocks.map .inr)
theorem zipP_len : ∀ (r : List TX) (b : List TB), (zipP r b).length = r.length + b.length
  | [], b => by show (b.map _).length = _; simp
  | x :: r, [] => by show ((x :: r).map _).length = _; simp
  | x :: r, y :: b => by
    show (zipP r b).length + 1 + 1 = _
    rw [zipP_len r b]; simp; omega
theorem zipP_x : ∀ (r : List TX) (b : List TB) (i : Nat) (h : i < r.length), (zipP r b)[i + min i b.length]? = some (.inl r[i])
  | x :: r, [], i, h => by
    show ((x :: r).map Sum.inl)[i + min i 0]? = _
    rw [show i + min i 0 = i by omega, List.getElem?_map, List.getElem?_eq_getElem h]
    rfl
  | x :: r, y :: b, 0, h => by simp [zipP]
  | x :: r, y :: b, i + 1, h => by
    show (Sum.inl x :: Sum.inr y :: zipP r b)[_]? = _
    rw [show i + 1 + min (i + 1) (y :: b).length = (i + min i b.length) + 1 + 1 by simp; omega]
    simp only [List.getElem?_cons_succ, List.getElem_cons_succ]
    exact zipP_x r b i (by simpa using h)
theorem zipP_b : ∀ (r : List TX) (b : List TB) (i : Nat) (h : i < b.length), (zipP r b)[min (i + 1) r.length + i]? = some (.inr b[i])
  | [], b, i, h => by
    show (b.map _)[_]? = _
    simp [h]
  | x :: r, y :: b, 0, h => by simp [zipP]
  | x :: r, y :: b, i + 1, h => by
    show (Sum.inl x :: Sum.inr y :: zipP r b)[_]? = _
    rw [show min (i + 1 + 1) (x :: r).length + (i + 1) = (min (i + 1) r.length + i) + 1 + 1 by simp; omega]
    simp only [List.getElem?_cons_succ, List.getElem_cons_succ]
    exact zipP_b r b i (by simpa using h)

/-- A callback at a part. -/
def CBp (fe fb : Value) (p : TX ⊕ TB) (W : World) (R : Ending → World → Prop) : Prop :=
  match p with
  | .inl x => CB fe #[x.v] W R
  | .inr y => CB fb #[y.v] W R
def IsFn (f : Value) : Prop := ∃ g fi cp, f = .func (.func g) fi cp ∧ (∀ args u, (callFunc g args).run Tryz.prog u = .ok (.enter g args) u)

/-- The boxes that stats makes: the statement's fields and the two callbacks. -/
def Bx (n : Nat) (s : TS) (fe fb : Value) (w : World) : Prop :=
  (w.cell? ⟨n, 0, none⟩ = some (.int .i64 s.k) ∧ w.cell? ⟨n, 1, none⟩ = some (.int .i64 s.ln) ∧ w.cell? ⟨n, 2, none⟩ = some (.slice s.nA s.names.length s.nC) ∧ w.cell? ⟨n, 3, none⟩ = some (.slice s.lA s.left.length s.lC) ∧ w.cell? ⟨n, 4, none⟩ = some (.slice s.rA s.right.length s.rC) ∧ w.cell? ⟨n, 5, none⟩ = some (.slice s.bA s.blocks.length s.bC) ∧ w.cell? ⟨n, 6, none⟩ = some (.string s.label)) ∧
  w.cell? ⟨n + 1, 0, none⟩ = some fe ∧ w.cell? ⟨n + 1 + 1, 0, none⟩ = some fb
theorem Bx.kept {a b n : Nat} {s : TS} {fe fb : Value} {W W' : World} (h : Bx n s fe fb W) (k : Kept a b W W') (hb : b ≤ n) (g1 : ∀ s, fe ≠ .string s := by intro s e; cases e) (g2 : ∀ s, fb ≠ .string s := by intro s e; cases e) : Bx n s fe fb W' := by
  obtain ⟨⟨h0, h1, h2, h3, h4, h5, h6⟩, h7, h8⟩ := h
  exact ⟨⟨k.cell h0 h0 hb, k.cell h0 h1 hb, k.cell h0 h2 hb, k.cell h0 h3 hb, k.cell h0 h4 hb, k.cell h0 h5 hb, k.cell h0 h6 hb⟩, k.cell h7 h7 (by omega) g1, k.cell h8 h8 (by omega) g2⟩
theorem Bx.new (s : TS) (fe fb : Value) (w : World) (t1 t2 t3 : TypeId) :
    Bx w.heap.size s fe fb (((w.alloc (.cells #[.int .i64 s.k, .int .i64 s.ln, .slice s.nA s.names.length s.nC, .slice s.lA s.left.length s.lC, .slice s.rA s.right.length s.rC, .slice s.bA s.blocks.length s.bC, .string s.label] t1)).alloc (.cells #[fe] t2)).alloc (.cells #[fb] t3)) := by
  unfold Bx
  simp [cell_alloc_if]
  exact ⟨fun h => absurd h (by omega), by omega⟩

section
variable (a b p : Nat) (J : Nat → World → Prop) (X : Ending → World → Prop) (fe fb : Value) (s : TS) (w : World)
  (hin : InS w a s) (hab : a ≤ b) (hbw : b ≤ w.heap.size) (hfe : IsFn fe) (hfb : IsFn fb)
  (hJ : ∀ j W W', J j W → Below W.heap.size W W' → J j W')
  (H : ∀ j x, (partsS s)[j]? = some x → ∀ W, J (p + j) W → CBp fe fb x W (RJ a b (J (p + (j + 1))) X W))
include hab hbw hfe hJ H hfb hin

omit hin hfb in
theorem stats_part1 (q : Nat) (l : List TX) (A : Option Addr) (c : Nat) (hok : XsOk w a A c l) (hseg : ∀ j (h : j < l.length), (partsS s)[q + j]? = some (.inl l[j])) :
    Hid (∀ W, Bx w.heap.size s fe fb W → Kept a b w W → J (p + q) W → Calls Tryz.prog 56 #[.slice A l.length c, .pointer (some ⟨w.heap.size + 1, 0, none⟩)] W (RJ a b (J (p + q + l.length)) X W)) := by
  intro W hx hk h0
  refine stats1_any a b (p + q) J X fe l A c (w.heap.size + 1) W (hok.still (hk.still (Nat.le_refl _)) (Nat.le_refl _)) hab (by omega) hx.2.1 hfe hJ ?_ h0
  intro j h W' hW'
  have := H (q + j) _ (hseg j h) W' (by rw [← Nat.add_assoc]; exact hW')
  rw [show p + (q + j + 1) = p + q + (j + 1) by omega] at this
  exact this
omit hin hfe hJ in
theorem stats_part2 (q : Nat) (l : List TB) (A : Option Addr) (c : Nat) (hok : BsOk w a A c l) (hseg : ∀ j (h : j < l.length), (partsS s)[q + j]? = some (.inr l[j])) :
    Hid (∀ W, Bx w.heap.size s fe fb W → Kept a b w W → J (p + q) W → Calls Tryz.prog 57 #[.slice A l.length c, .pointer (some ⟨w.heap.size + 1 + 1, 0, none⟩)] W (RJ a b (J (p + q + l.length)) X W)) := by
  intro W hx hk h0
  refine stats2_any a b (p + q) J X fb l A c (w.heap.size + 1 + 1) W (hok.still (hk.still (Nat.le_refl _)) (Nat.le_refl _)) hab (by omega) hx.2.2 hfb ?_ h0
  intro j h W' hW'
  have := H (q + j) _ (hseg j h) W' (by rw [← Nat.add_assoc]; exact hW')
  rw [show p + (q + j + 1) = p + q + (j + 1) by omega] at this
  exact this

set_option maxHeartbeats 1600000 in
theorem stats_rep (hk : s.k = 7) (h0 : J p w) : Calls Tryz.prog 34 #[s.v, fe, fb] w (RJ a b (J (p + (partsS s).length)) X w) := by
  have hp : partsS s = s.left.map .inl ++ (s.blocks.map .inr ++ s.right.map .inl) := by unfold partsS; rw [if_pos hk]
  have H1 := stats_part1 a b p J X fe fb s w hab hbw hfe hJ H 0 s.left s.lA s.lC hin.lf (fun j h => by rw [hp, Nat.zero_add, List.getElem?_append_left (by simpa using h)]; simp [h])
  have H2 := stats_part2 a b p J X fe fb s w hab hbw hfb H s.left.length s.blocks s.bA s.bC hin.bs (fun j h => by rw [hp, List.getElem?_append_right (by simp), List.getElem?_append_left (by simpa using h)]; simp [h])
  have H3 := stats_part1 a b p J X fe fb s w hab hbw hfe hJ H (s.left.length + s.blocks.length) s.right s.rA s.rC hin.rt (fun j h => by rw [hp, List.getElem?_append_right (by simp; omega), List.getElem?_append_right (by simp; omega)]; simp [show s.left.length + s.blocks.length + j - s.left.length - s.blocks.length = j by omega, h])
  have hlen : p + (partsS s).length = p + (s.left.length + s.blocks.length) + s.right.length := by rw [hp]; simp; omega
  rw [hlen]
  have HJ := Lib.hid hJ
  have H0 := Lib.hid h0
  have d7 : (s.k == 7) = true := by simpa using hk
  obtain ⟨g1, fi1, cp1, rfl, -⟩ := hfe
  obtain ⟨g2, fi2, cp2, rfl, -⟩ := hfb
  clear H hJ hp h0 hlen hin hk
  have HB0 := Lib.hid (Bx.new s (.func (.func g1) fi1 cp1) (.func (.func g2) fi2 cp2) w 41 53 73)
  go_enter Tryz.func34, Tryz.ntmps34
  go_wp2_with fail
  refine (H1.out _ HB0.out (kept_of (by (repeat' (first | (with_reducible exact Below.refl _ _) | (with_reducible assumption) | (with_reducible refine Below.alloc ?_ ?_ _) | (with_reducible refine below_drewN ?_ _) | (with_reducible refine Below.drew ?_) | (with_reducible refine Below.setCell ?_ ?_ _) | (with_reducible refine below_via (by assumption) ?_ ?_) | (with_reducible refine below_via (later_below _) ?_ ?_) | (with_reducible exact Nat.le_refl _) | omega | (simp; omega) | (simp; done)))) (by omega)) (HJ.out p w _ H0.out (by (repeat' (first | (with_reducible exact Below.refl _ _) | (with_reducible assumption) | (with_reducible refine Below.alloc ?_ ?_ _) | (with_reducible refine below_drewN ?_ _) | (with_reducible refine Below.drew ?_) | (with_reducible refine Below.setCell ?_ ?_ _) | (with_reducible refine below_via (by assumption) ?_ ?_) | (with_reducible refine below_via (later_below _) ?_ ?_) | (with_reducible exact Nat.le_refl _) | omega | (simp; omega) | (simp; done)))))).mono ?_
  rintro e w1 (⟨rfl, hT1, hk1⟩ | ⟨rfl | ⟨ch, rfl⟩, hX⟩)
  · have hB1 := HB0.out.kept hk1 hbw
    have HB1 := Lib.hid hB1
    have HK1 : Hid (Kept a b w w1) := (kept_of (by (repeat' (first | (with_reducible exact Below.refl _ _) | (with_reducible assumption) | (with_reducible refine Below.alloc ?_ ?_ _) | (with_reducible refine below_drewN ?_ _) | (with_reducible refine Below.drew ?_) | (with_reducible refine Below.setCell ?_ ?_ _) | (with_reducible refine below_via (by assumption) ?_ ?_) | (with_reducible refine below_via (later_below _) ?_ ?_) | (with_reducible exact Nat.le_refl _) | omega | (simp; omega) | (simp; done)))) (by omega)).trans hk1
    have HT1 := Lib.hid hT1
    obtain ⟨⟨b0, b1, b2, b3, b4, b5, b6⟩, b7, b8⟩ := hB1
    have hz1 := cell_lt b8
    clear hk1 hT1
    go_wp2_with fail
    refine (H2.out _ HB1.out HK1.out (by have h := HT1.out; rwa [Nat.add_zero] at h)).mono ?_
    rintro e w2 (⟨rfl, hT2, hk2⟩ | ⟨rfl | ⟨ch, rfl⟩, hX⟩)
    · have hB2 := HB1.out.kept hk2 hbw
      have HB2 := Lib.hid hB2
      have HK2 : Hid (Kept a b w w2) := HK1.out.trans hk2
      have HT2 := Lib.hid hT2
      obtain ⟨⟨d0, d1, d2, d3, d4, d5, d6⟩, d7', d8⟩ := hB2
      have hz2 := cell_lt d8
      clear hk2 hT2
      go_wp2_with fail
      refine (H3.out _ HB2.out HK2.out (by have h := HT2.out; rwa [Nat.add_assoc] at h)).mono ?_
      rintro e w3 (⟨rfl, hT3, hk3⟩ | ⟨rfl | ⟨ch, rfl⟩, hX⟩)
      · go_wp2_with fail
        go_returns
        exact .inl ⟨rfl, hT3, HK2.out.trans hk3⟩
      · go_wp2_with fail
        go_returns
        exact .inr ⟨.inl rfl, hX⟩
      · exact ⟨rfl, .inr ⟨.inr ⟨ch, rfl⟩, hX⟩⟩
    · go_wp2_with fail
      go_returns
      exact .inr ⟨.inl rfl, hX⟩
    · exact ⟨rfl, .inr ⟨.inr ⟨ch, rfl⟩, hX⟩⟩
  · go_wp2_with fail
    go_returns
    exact .inr ⟨.inl rfl, hX⟩
  · exact ⟨rfl, .inr ⟨.inr ⟨ch, rfl⟩, hX⟩⟩

set_option maxHeartbeats 1600000 in
theorem stats_els (hk7 : s.k ≠ 7) (hk8 : s.k ≠ 8) (h0 : J p w) : Calls Tryz.prog 34 #[s.v, fe, fb] w (RJ a b (J (p + (partsS s).length)) X w) := by
  have hp : partsS s = s.left.map .inl ++ (s.right.map .inl ++ s.blocks.map .inr) := by unfold partsS; rw [if_neg hk7, if_neg hk8]
  have H1 := stats_part1 a b p J X fe fb s w hab hbw hfe hJ H 0 s.left s.lA s.lC hin.lf (fun j h => by rw [hp, Nat.zero_add, List.getElem?_append_left (by simpa using h)]; simp [h])
  have H2 := stats_part1 a b p J X fe fb s w hab hbw hfe hJ H s.left.length s.right s.rA s.rC hin.rt (fun j h => by rw [hp, List.getElem?_append_right (by simp), List.getElem?_append_left (by simpa using h)]; simp [h])
  have H3 := stats_part2 a b p J X fe fb s w hab hbw hfb H (s.left.length + s.right.length) s.blocks s.bA s.bC hin.bs (fun j h => by rw [hp, List.getElem?_append_right (by simp; omega), List.getElem?_append_right (by simp; omega)]; simp [show s.left.length + s.right.length + j - s.left.length - s.right.length = j by omega, h])
  have hlen : p + (partsS s).length = p + (s.left.length + s.right.length) + s.blocks.length := by rw [hp]; simp; omega
  rw [hlen]
  have HJ := Lib.hid hJ
  have H0 := Lib.hid h0
  have d7 : (s.k == 7) = false := by simpa using hk7
  have d8 : (s.k == 8) = false := by simpa using hk8
  obtain ⟨g1, fi1, cp1, rfl, -⟩ := hfe
  obtain ⟨g2, fi2, cp2, rfl, -⟩ := hfb
  clear H hJ hp h0 hlen hin hk7 hk8
  have HB0 := Lib.hid (Bx.new s (.func (.func g1) fi1 cp1) (.func (.func g2) fi2 cp2) w 41 53 73)
  go_enter Tryz.func34, Tryz.ntmps34
  go_wp2_with fail
  refine (H1.out _ HB0.out (kept_of (by (repeat' (first | (with_reducible exact Below.refl _ _) | (with_reducible assumption) | (with_reducible refine Below.alloc ?_ ?_ _) | (with_reducible refine below_drewN ?_ _) | (with_reducible refine Below.drew ?_) | (with_reducible refine Below.setCell ?_ ?_ _) | (with_reducible refine below_via (by assumption) ?_ ?_) | (with_reducible refine below_via (later_below _) ?_ ?_) | (with_reducible exact Nat.le_refl _) | omega | (simp; omega) | (simp; done)))) (by omega)) (HJ.out p w _ H0.out (by (repeat' (first | (with_reducible exact Below.refl _ _) | (with_reducible assumption) | (with_reducible refine Below.alloc ?_ ?_ _) | (with_reducible refine below_drewN ?_ _) | (with_reducible refine Below.drew ?_) | (with_reducible refine Below.setCell ?_ ?_ _) | (with_reducible refine below_via (by assumption) ?_ ?_) | (with_reducible refine below_via (later_below _) ?_ ?_) | (with_reducible exact Nat.le_refl _) | omega | (simp; omega) | (simp; done)))))).mono ?_
  rintro e w1 (⟨rfl, hT1, hk1⟩ | ⟨rfl | ⟨ch, rfl⟩, hX⟩)
  · have hB1 := HB0.out.kept hk1 hbw
    have HB1 := Lib.hid hB1
    have HK1 : Hid (Kept a b w w1) := (kept_of (by (repeat' (first | (with_reducible exact Below.refl _ _) | (with_reducible assumption) | (with_reducible refine Below.alloc ?_ ?_ _) | (with_reducible refine below_drewN ?_ _) | (with_reducible refine Below.drew ?_) | (with_reducible refine Below.setCell ?_ ?_ _) | (with_reducible refine below_via (by assumption) ?_ ?_) | (with_reducible refine below_via (later_below _) ?_ ?_) | (with_reducible exact Nat.le_refl _) | omega | (simp; omega) | (simp; done)))) (by omega)).trans hk1
    have HT1 := Lib.hid hT1
    obtain ⟨⟨b0, b1, b2, b3, b4, b5, b6⟩, b7, b8⟩ := hB1
    have hz1 := cell_lt b8
    clear hk1 hT1
    go_wp2_with fail
    refine (H2.out _ HB1.out HK1.out (by have h := HT1.out; rwa [Nat.add_zero] at h)).mono ?_
    rintro e w2 (⟨rfl, hT2, hk2⟩ | ⟨rfl | ⟨ch, rfl⟩, hX⟩)
    · have hB2 := HB1.out.kept hk2 hbw
      have HB2 := Lib.hid hB2
      have HK2 : Hid (Kept a b w w2) := HK1.out.trans hk2
      have HT2 := Lib.hid hT2
      obtain ⟨⟨d0, d1, d2, d3, d4, d5, d6⟩, d7', d8'⟩ := hB2
      have hz2 := cell_lt d8'
      clear hk2 hT2
      go_wp2_with fail
      refine (H3.out _ HB2.out HK2.out (by have h := HT2.out; rwa [Nat.add_assoc] at h)).mono ?_
      rintro e w3 (⟨rfl, hT3, hk3⟩ | ⟨rfl | ⟨ch, rfl⟩, hX⟩)
      · go_wp2_with fail
        go_returns
        exact .inl ⟨rfl, hT3, HK2.out.trans hk3⟩
      · go_wp2_with fail
        go_returns
        exact .inr ⟨.inl rfl, hX⟩
      · exact ⟨rfl, .inr ⟨.inr ⟨ch, rfl⟩, hX⟩⟩
    · go_wp2_with fail
      go_returns
      exact .inr ⟨.inl rfl, hX⟩
    · exact ⟨rfl, .inr ⟨.inr ⟨ch, rfl⟩, hX⟩⟩
  · go_wp2_with fail
    go_returns
    exact .inr ⟨.inl rfl, hX⟩
  · exact ⟨rfl, .inr ⟨.inr ⟨ch, rfl⟩, hX⟩⟩
end
end Go.Proofs.YtplphejillkdeaaGreatDoor
