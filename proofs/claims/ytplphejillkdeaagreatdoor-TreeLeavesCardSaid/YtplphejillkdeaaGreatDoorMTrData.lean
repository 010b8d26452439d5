/- Trees as they lie in memory: expressions, functions, statements, blocks; what is known of a tree that can be read. -/
import Derived.Test.YtplphejillkdeaaGreatDoorMMem
namespace Go.Proofs.YtplphejillkdeaaGreatDoor
open Go.RowKit
set_option linter.unusedVariables false

mutual
/-- An expression: its fields, and where its parts lie. -/
structure TX where
  k : Int
  op : Int
  ln : Int
  p : Int
  q : Int
  s : ByteArray
  aA : Option Addr
  aC : Nat
  args : List TX
  fA : Option Addr
  fC : Nat
  funcs : List TF
/-- A function. -/
structure TF where
  name : ByteArray
  pA : Option Addr
  pC : Nat
  params : List ByteArray
  va : Bool
  bA : Option Addr
  bC : Nat
  body : List TS
  ln : Int
/-- A statement. -/
structure TS where
  k : Int
  ln : Int
  nA : Option Addr
  nC : Nat
  names : List (ByteArray × Int)
  lA : Option Addr
  lC : Nat
  left : List TX
  rA : Option Addr
  rC : Nat
  right : List TX
  bA : Option Addr
  bC : Nat
  blocks : List TB
  label : ByteArray
/-- A block. -/
structure TB where
  a : Option Addr
  c : Nat
  l : List TS
end

/-- The values as they are handed about. -/
abbrev TX.v (x : TX) : Value := .agg #[.int .i64 x.k, .int .i64 x.op, .int .i64 x.ln, .int .i64 x.p, .int .i64 x.q, .string x.s, .slice x.aA x.args.length x.aC, .slice x.fA x.funcs.length x.fC]
abbrev TF.v (x : TF) : Value := .agg #[.string x.name, .slice x.pA x.params.length x.pC, .bool x.va, .slice x.bA x.body.length x.bC, .int .i64 x.ln]
abbrev TS.v (x : TS) : Value := .agg #[.int .i64 x.k, .int .i64 x.ln, .slice x.nA x.names.length x.nC, .slice x.lA x.left.length x.lC, .slice x.rA x.right.length x.rC, .slice x.bA x.blocks.length x.bC, .string x.label]
abbrev TB.v (x : TB) : Value := .slice x.a x.l.length x.c

/-- The cells. -/
def X8 (w : World) (b o : Nat) (x : TX) : Prop := w.cell? ⟨b, o, none⟩ = some (.int .i64 x.k) ∧ w.cell? ⟨b, o + 1, none⟩ = some (.int .i64 x.op) ∧ w.cell? ⟨b, o + 2, none⟩ = some (.int .i64 x.ln) ∧ w.cell? ⟨b, o + 3, none⟩ = some (.int .i64 x.p) ∧ w.cell? ⟨b, o + 4, none⟩ = some (.int .i64 x.q) ∧ w.cell? ⟨b, o + 5, none⟩ = some (.string x.s) ∧ w.cell? ⟨b, o + 6, none⟩ = some (.slice x.aA x.args.length x.aC) ∧ w.cell? ⟨b, o + 7, none⟩ = some (.slice x.fA x.funcs.length x.fC)
def F5 (w : World) (b o : Nat) (x : TF) : Prop := w.cell? ⟨b, o, none⟩ = some (.string x.name) ∧ w.cell? ⟨b, o + 1, none⟩ = some (.slice x.pA x.params.length x.pC) ∧ w.cell? ⟨b, o + 2, none⟩ = some (.bool x.va) ∧ w.cell? ⟨b, o + 3, none⟩ = some (.slice x.bA x.body.length x.bC) ∧ w.cell? ⟨b, o + 4, none⟩ = some (.int .i64 x.ln)
def S7 (w : World) (b o : Nat) (x : TS) : Prop := w.cell? ⟨b, o, none⟩ = some (.int .i64 x.k) ∧ w.cell? ⟨b, o + 1, none⟩ = some (.int .i64 x.ln) ∧ w.cell? ⟨b, o + 2, none⟩ = some (.slice x.nA x.names.length x.nC) ∧ w.cell? ⟨b, o + 3, none⟩ = some (.slice x.lA x.left.length x.lC) ∧ w.cell? ⟨b, o + 4, none⟩ = some (.slice x.rA x.right.length x.rC) ∧ w.cell? ⟨b, o + 5, none⟩ = some (.slice x.bA x.blocks.length x.bC) ∧ w.cell? ⟨b, o + 6, none⟩ = some (.string x.label)
def B1 (w : World) (b o : Nat) (x : TB) : Prop := w.cell? ⟨b, o, none⟩ = some (.slice x.a x.l.length x.c)
def L2 (w : World) (b o : Nat) (x : ByteArray × Int) : Prop := w.cell? ⟨b, o, none⟩ = some (.string x.1) ∧ w.cell? ⟨b, o + 1, none⟩ = some (.int .i64 x.2)
def P1 (w : World) (b o : Nat) (x : ByteArray) : Prop := w.cell? ⟨b, o, none⟩ = some (.string x)

/-- Elements of so many cells each at a slice's address, below block N. -/
def At (N size : Nat) {α : Type} (C : Nat → Nat → α → Prop) (a : Option Addr) (l : List α) : Prop := l.length = 0 ∨ ∃ b o, a = some ⟨b, o, none⟩ ∧ b < N ∧ ∀ i, (h : i < l.length) → C b (o + i * size) l[i]
/-- A slice's numbers. -/
def Slc (a : Option Addr) (n c : Nat) : Prop := n ≤ c ∧ c ≤ 9223372036854775807 ∧ (a = none → c = 0)
def I64 (n : Int) : Prop := -9223372036854775808 ≤ n ∧ n ≤ 9223372036854775807

abbrev XsAt (w : World) (N : Nat) (a : Option Addr) (l : List TX) : Prop := At N 8 (X8 w) a l
abbrev FsAt (w : World) (N : Nat) (a : Option Addr) (l : List TF) : Prop := At N 5 (F5 w) a l
abbrev SsAt (w : World) (N : Nat) (a : Option Addr) (l : List TS) : Prop := At N 7 (S7 w) a l
abbrev BsAt (w : World) (N : Nat) (a : Option Addr) (l : List TB) : Prop := At N 1 (B1 w) a l
abbrev LsAt (w : World) (N : Nat) (a : Option Addr) (l : List (ByteArray × Int)) : Prop := At N 2 (L2 w) a l
abbrev PsAt (w : World) (N : Nat) (a : Option Addr) (l : List ByteArray) : Prop := At N 1 (P1 w) a l

/-- What is known of a node by itself. -/
structure X0 (w : World) (N : Nat) (x : TX) : Prop where
  ki : I64 x.k
  oi : I64 x.op
  li : I64 x.ln
  pi : I64 x.p
  qi : I64 x.q
  si : x.s.size ≤ 9223372036854775807
  ai : Slc x.aA x.args.length x.aC
  fi : Slc x.fA x.funcs.length x.fC
  aAt : XsAt w N x.aA x.args
  fAt : FsAt w N x.fA x.funcs
structure F0 (w : World) (N : Nat) (x : TF) : Prop where
  ni : x.name.size ≤ 9223372036854775807
  pi : Slc x.pA x.params.length x.pC
  ps : ∀ s ∈ x.params, s.size ≤ 9223372036854775807
  bi : Slc x.bA x.body.length x.bC
  li : I64 x.ln
  pAt : PsAt w N x.pA x.params
  bAt : SsAt w N x.bA x.body
structure S0 (w : World) (N : Nat) (x : TS) : Prop where
  ki : I64 x.k
  ln : I64 x.ln
  ni : Slc x.nA x.names.length x.nC
  ns : ∀ s ∈ x.names, s.1.size ≤ 9223372036854775807 ∧ I64 s.2
  li : Slc x.lA x.left.length x.lC
  ri : Slc x.rA x.right.length x.rC
  bi : Slc x.bA x.blocks.length x.bC
  bl : x.label.size ≤ 9223372036854775807
  nAt : LsAt w N x.nA x.names
  lAt : XsAt w N x.lA x.left
  rAt : XsAt w N x.rA x.right
  bAt : BsAt w N x.bA x.blocks
structure B0 (w : World) (N : Nat) (x : TB) : Prop where
  li : Slc x.a x.l.length x.c
  lAt : SsAt w N x.a x.l

mutual
/-- The whole tree lies in memory. -/
def InX (w : World) (N : Nat) : TX → Prop
  | ⟨k, op, ln, p, q, s, aA, aC, args, fA, fC, funcs⟩ => X0 w N ⟨k, op, ln, p, q, s, aA, aC, args, fA, fC, funcs⟩ ∧ InXs w N args ∧ InFs w N funcs
def InXs (w : World) (N : Nat) : List TX → Prop
  | [] => True
  | x :: l => InX w N x ∧ InXs w N l
def InF (w : World) (N : Nat) : TF → Prop
  | ⟨name, pA, pC, params, va, bA, bC, body, ln⟩ => F0 w N ⟨name, pA, pC, params, va, bA, bC, body, ln⟩ ∧ InSs w N body
def InFs (w : World) (N : Nat) : List TF → Prop
  | [] => True
  | x :: l => InF w N x ∧ InFs w N l
def InS (w : World) (N : Nat) : TS → Prop
  | ⟨k, ln, nA, nC, names, lA, lC, left, rA, rC, right, bA, bC, blocks, label⟩ => S0 w N ⟨k, ln, nA, nC, names, lA, lC, left, rA, rC, right, bA, bC, blocks, label⟩ ∧ InXs w N left ∧ InXs w N right ∧ InBs w N blocks
def InSs (w : World) (N : Nat) : List TS → Prop
  | [] => True
  | x :: l => InS w N x ∧ InSs w N l
def InB (w : World) (N : Nat) : TB → Prop
  | ⟨a, c, l⟩ => B0 w N ⟨a, c, l⟩ ∧ InSs w N l
def InBs (w : World) (N : Nat) : List TB → Prop
  | [] => True
  | x :: l => InB w N x ∧ InBs w N l
end
theorem inX_iff {w : World} {N : Nat} (x : TX) : InX w N x ↔ X0 w N x ∧ InXs w N x.args ∧ InFs w N x.funcs := by cases x; exact Iff.rfl
theorem inF_iff {w : World} {N : Nat} (x : TF) : InF w N x ↔ F0 w N x ∧ InSs w N x.body := by cases x; exact Iff.rfl
theorem inS_iff {w : World} {N : Nat} (x : TS) : InS w N x ↔ S0 w N x ∧ InXs w N x.left ∧ InXs w N x.right ∧ InBs w N x.blocks := by cases x; exact Iff.rfl
theorem inB_iff {w : World} {N : Nat} (x : TB) : InB w N x ↔ B0 w N x ∧ InSs w N x.l := by cases x; exact Iff.rfl
theorem inXs_iff {w : World} {N : Nat} : ∀ l : List TX, InXs w N l ↔ ∀ x ∈ l, InX w N x
  | [] => ⟨fun _ x h => (by cases h), fun _ => trivial⟩
  | a :: l => by
    show InX w N a ∧ InXs w N l ↔ _
    rw [inXs_iff l]; simp
theorem inFs_iff {w : World} {N : Nat} : ∀ l : List TF, InFs w N l ↔ ∀ x ∈ l, InF w N x
  | [] => ⟨fun _ x h => (by cases h), fun _ => trivial⟩
  | a :: l => by
    show InF w N a ∧ InFs w N l ↔ _
    rw [inFs_iff l]; simp
theorem inSs_iff {w : World} {N : Nat} : ∀ l : List TS, InSs w N l ↔ ∀ x ∈ l, InS w N x
  | [] => ⟨fun _ x h => (by cases h), fun _ => trivial⟩
  | a :: l => by
    show InS w N a ∧ InSs w N l ↔ _
    rw [inSs_iff l]; simp
theorem inBs_iff {w : World} {N : Nat} : ∀ l : List TB, InBs w N l ↔ ∀ x ∈ l, InB w N x
  | [] => ⟨fun _ x h => (by cases h), fun _ => trivial⟩
  | a :: l => by
    show InB w N a ∧ InBs w N l ↔ _
    rw [inBs_iff l]; simp

/-- Below block N nothing has turned. -/
def Still (N : Nat) (w w' : World) : Prop := ∀ g, g < N → w'.heap[g]? = w.heap[g]?
theorem Still.cell {N : Nat} {w w' : World} (h : Still N w w') {b o : Nat} (hb : b < N) : w'.cell? ⟨b, o, none⟩ = w.cell? ⟨b, o, none⟩ := World.cell?_of_block (w := w) (h b hb)
theorem Still.trans {N : Nat} {a b c : World} (h : Still N a b) (k : Still N b c) : Still N a c := fun g hg => (k g hg).trans (h g hg)
theorem Still.refl (N : Nat) (w : World) : Still N w w := fun _ _ => rfl
theorem Still.mono {N M : Nat} {w w' : World} (h : Still N w w') (hM : M ≤ N) : Still M w w' := fun g hg => h g (by omega)
theorem still_of {B N : Nat} {w w' : World} (h : Below B w w') (hN : N ≤ B) : Still N w w' := fun g hg => h.block g (by omega)

theorem At.still {N M size : Nat} {α : Type} {C C' : Nat → Nat → α → Prop} {a : Option Addr} {l : List α} (h : At N size C a l) (hC : ∀ b o x, b < N → C b o x → C' b o x) (hM : N ≤ M) : At M size C' a l := by
  rcases h with h | ⟨b, o, h1, h2, h3⟩
  · exact .inl h
  · exact .inr ⟨b, o, h1, by omega, fun i hi => hC _ _ _ h2 (h3 i hi)⟩
section
variable {N M : Nat} {w w' : World} (hs : Still N w w') (hM : N ≤ M)
include hs
theorem x8_still (b o : Nat) (x : TX) (hb : b < N) (h : X8 w b o x) : X8 w' b o x := by
  unfold X8 at h ⊢
  simp only [hs.cell hb]
  exact h
theorem f5_still (b o : Nat) (x : TF) (hb : b < N) (h : F5 w b o x) : F5 w' b o x := by
  unfold F5 at h ⊢
  simp only [hs.cell hb]
  exact h
theorem s7_still (b o : Nat) (x : TS) (hb : b < N) (h : S7 w b o x) : S7 w' b o x := by
  unfold S7 at h ⊢
  simp only [hs.cell hb]
  exact h
theorem b1_still (b o : Nat) (x : TB) (hb : b < N) (h : B1 w b o x) : B1 w' b o x := by
  unfold B1 at h ⊢
  simp only [hs.cell hb]
  exact h
theorem l2_still (b o : Nat) (x : ByteArray × Int) (hb : b < N) (h : L2 w b o x) : L2 w' b o x := by
  unfold L2 at h ⊢
  simp only [hs.cell hb]
  exact h
theorem p1_still (b o : Nat) (x : ByteArray) (hb : b < N) (h : P1 w b o x) : P1 w' b o x := by
  unfold P1 at h ⊢
  simp only [hs.cell hb]
  exact h
include hM
theorem X0.still {x : TX} (h : X0 w N x) : X0 w' M x := ⟨h.ki, h.oi, h.li, h.pi, h.qi, h.si, h.ai, h.fi, h.aAt.still (x8_still hs) hM, h.fAt.still (f5_still hs) hM⟩
theorem F0.still {x : TF} (h : F0 w N x) : F0 w' M x := ⟨h.ni, h.pi, h.ps, h.bi, h.li, h.pAt.still (p1_still hs) hM, h.bAt.still (s7_still hs) hM⟩
theorem S0.still {x : TS} (h : S0 w N x) : S0 w' M x := ⟨h.ki, h.ln, h.ni, h.ns, h.li, h.ri, h.bi, h.bl, h.nAt.still (l2_still hs) hM, h.lAt.still (x8_still hs) hM, h.rAt.still (x8_still hs) hM, h.bAt.still (b1_still hs) hM⟩
theorem B0.still {x : TB} (h : B0 w N x) : B0 w' M x := ⟨h.li, h.lAt.still (s7_still hs) hM⟩
end
mutual
theorem InX.still {N M : Nat} {w w' : World} (hs : Still N w w') (hM : N ≤ M) : ∀ {x : TX}, InX w N x → InX w' M x
  | ⟨_, _, _, _, _, _, _, _, _, _, _, _⟩, h => ⟨h.1.still hs hM, InXs.still hs hM h.2.1, InFs.still hs hM h.2.2⟩
theorem InXs.still {N M : Nat} {w w' : World} (hs : Still N w w') (hM : N ≤ M) : ∀ {l : List TX}, InXs w N l → InXs w' M l
  | [], _ => trivial
  | _ :: _, h => ⟨InX.still hs hM h.1, InXs.still hs hM h.2⟩
theorem InF.still {N M : Nat} {w w' : World} (hs : Still N w w') (hM : N ≤ M) : ∀ {x : TF}, InF w N x → InF w' M x
  | ⟨_, _, _, _, _, _, _, _, _⟩, h => ⟨h.1.still hs hM, InSs.still hs hM h.2⟩
theorem InFs.still {N M : Nat} {w w' : World} (hs : Still N w w') (hM : N ≤ M) : ∀ {l : List TF}, InFs w N l → InFs w' M l
  | [], _ => trivial
  | _ :: _, h => ⟨InF.still hs hM h.1, InFs.still hs hM h.2⟩
theorem InS.still {N M : Nat} {w w' : World} (hs : Still N w w') (hM : N ≤ M) : ∀ {x : TS}, InS w N x → InS w' M x
  | ⟨_, _, _, _, _, _, _, _, _, _, _, _, _, _, _⟩, h => ⟨h.1.still hs hM, InXs.still hs hM h.2.1, InXs.still hs hM h.2.2.1, InBs.still hs hM h.2.2.2⟩
theorem InSs.still {N M : Nat} {w w' : World} (hs : Still N w w') (hM : N ≤ M) : ∀ {l : List TS}, InSs w N l → InSs w' M l
  | [], _ => trivial
  | _ :: _, h => ⟨InS.still hs hM h.1, InSs.still hs hM h.2⟩
theorem InB.still {N M : Nat} {w w' : World} (hs : Still N w w') (hM : N ≤ M) : ∀ {x : TB}, InB w N x → InB w' M x
  | ⟨_, _, _⟩, h => ⟨h.1.still hs hM, InSs.still hs hM h.2⟩
theorem InBs.still {N M : Nat} {w w' : World} (hs : Still N w w') (hM : N ≤ M) : ∀ {l : List TB}, InBs w N l → InBs w' M l
  | [], _ => trivial
  | _ :: _, h => ⟨InB.still hs hM h.1, InBs.still hs hM h.2⟩
end

/-- Letters, and one more. -/
def rkP (s : ByteArray) : Nat := s.size + 1
def rkL (s : ByteArray × Int) : Nat := s.1.size + 1
mutual
/-- A number that falls from a node to its parts. -/
def rkX : TX → Nat
  | ⟨_, _, _, _, _, s, _, _, args, _, _, funcs⟩ => 1 + s.size + rkXs args + rkFs funcs
def rkXs : List TX → Nat
  | [] => 0
  | x :: l => rkX x + rkXs l
def rkF : TF → Nat
  | ⟨name, _, _, params, _, _, _, body, _⟩ => 1 + name.size + (params.map rkP).sum + rkSs body
def rkFs : List TF → Nat
  | [] => 0
  | x :: l => rkF x + rkFs l
def rkS : TS → Nat
  | ⟨_, _, _, _, names, _, _, left, _, _, right, _, _, blocks, label⟩ => 1 + label.size + (names.map rkL).sum + rkXs left + rkXs right + rkBs blocks
def rkSs : List TS → Nat
  | [] => 0
  | x :: l => rkS x + rkSs l
def rkB : TB → Nat
  | ⟨_, _, l⟩ => 1 + rkSs l
def rkBs : List TB → Nat
  | [] => 0
  | x :: l => rkB x + rkBs l
end
theorem rkX_eq (x : TX) : rkX x = 1 + x.s.size + rkXs x.args + rkFs x.funcs := by cases x; rfl
theorem rkF_eq (x : TF) : rkF x = 1 + x.name.size + (x.params.map rkP).sum + rkSs x.body := by cases x; rfl
theorem rkS_eq (x : TS) : rkS x = 1 + x.label.size + (x.names.map rkL).sum + rkXs x.left + rkXs x.right + rkBs x.blocks := by cases x; rfl
theorem rkB_eq (x : TB) : rkB x = 1 + rkSs x.l := by cases x; rfl
theorem rkXs_sum : ∀ l : List TX, (l.map rkX).sum = rkXs l
  | [] => rfl
  | x :: l => by
    show rkX x + (l.map rkX).sum = rkX x + rkXs l
    rw [rkXs_sum l]
theorem rkFs_sum : ∀ l : List TF, (l.map rkF).sum = rkFs l
  | [] => rfl
  | x :: l => by
    show rkF x + (l.map rkF).sum = rkF x + rkFs l
    rw [rkFs_sum l]
theorem rkSs_sum : ∀ l : List TS, (l.map rkS).sum = rkSs l
  | [] => rfl
  | x :: l => by
    show rkS x + (l.map rkS).sum = rkS x + rkSs l
    rw [rkSs_sum l]
theorem rkBs_sum : ∀ l : List TB, (l.map rkB).sum = rkBs l
  | [] => rfl
  | x :: l => by
    show rkB x + (l.map rkB).sum = rkB x + rkBs l
    rw [rkBs_sum l]
theorem rkXs_mem : ∀ {l : List TX} {x : TX}, x ∈ l → rkX x ≤ rkXs l
  | a :: l, x, h => by
    show _ ≤ rkX a + rkXs l
    rcases List.mem_cons.1 h with h | h
    · subst h; omega
    · have := rkXs_mem h; omega
theorem rkFs_mem : ∀ {l : List TF} {x : TF}, x ∈ l → rkF x ≤ rkFs l
  | a :: l, x, h => by
    show _ ≤ rkF a + rkFs l
    rcases List.mem_cons.1 h with h | h
    · subst h; omega
    · have := rkFs_mem h; omega
theorem rkSs_mem : ∀ {l : List TS} {x : TS}, x ∈ l → rkS x ≤ rkSs l
  | a :: l, x, h => by
    show _ ≤ rkS a + rkSs l
    rcases List.mem_cons.1 h with h | h
    · subst h; omega
    · have := rkSs_mem h; omega
theorem rkBs_mem : ∀ {l : List TB} {x : TB}, x ∈ l → rkB x ≤ rkBs l
  | a :: l, x, h => by
    show _ ≤ rkB a + rkBs l
    rcases List.mem_cons.1 h with h | h
    · subst h; omega
    · have := rkBs_mem h; omega
end Go.Proofs.YtplphejillkdeaaGreatDoor
