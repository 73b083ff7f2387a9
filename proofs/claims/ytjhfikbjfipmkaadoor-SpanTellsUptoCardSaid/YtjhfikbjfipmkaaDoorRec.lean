/- Go's structs as records of numbers, and their cells; slices of them as lists. -/
import Derived.Test.YtjhfikbjfipmkaaDoorBase
namespace Go.Proofs.YtjhfikbjfipmkaaDoor
open Go.RowKit
set_option linter.unusedVariables false
set_option linter.unusedSimpArgs false
def i64B (n : Int) : Prop := -9223372036854775808 ≤ n ∧ n ≤ 9223372036854775807
structure RSpan where
  lo : Int
  hi : Int
def RSpan.cells (a : RSpan) : List Value := [.int .i64 a.lo, .int .i64 a.hi]
def RSpan.ok (a : RSpan) : Prop := i64B a.lo ∧ i64B a.hi
structure RProbe where
  t1 : Int
  t2 : Int
  t3 : Int
  t4 : Int
def RProbe.cells (a : RProbe) : List Value := [.int .i64 a.t1, .int .i64 a.t2, .int .i64 a.t3, .int .i64 a.t4]
def RProbe.ok (a : RProbe) : Prop := i64B a.t1 ∧ i64B a.t2 ∧ i64B a.t3 ∧ i64B a.t4
structure RDate where
  year : Int
  month : Int
  day : Int
def RDate.cells (a : RDate) : List Value := [.int .i64 a.year, .int .i64 a.month, .int .i64 a.day]
def RDate.ok (a : RDate) : Prop := i64B a.year ∧ i64B a.month ∧ i64B a.day
structure RPoint where
  x : Int
  y : Int
def RPoint.cells (a : RPoint) : List Value := [.int .i64 a.x, .int .i64 a.y]
def RPoint.ok (a : RPoint) : Prop := i64B a.x ∧ i64B a.y
structure RAct where
  what : Int
  a : Int
  b : Int
def RAct.cells (a : RAct) : List Value := [.int .i64 a.what, .int .i64 a.a, .int .i64 a.b]
def RAct.ok (a : RAct) : Prop := i64B a.what ∧ i64B a.a ∧ i64B a.b
structure RLeap where
  day : Int
  up : Bool
def RLeap.cells (a : RLeap) : List Value := [.int .i64 a.day, .bool a.up]
def RLeap.ok (a : RLeap) : Prop := i64B a.day
structure RLetter where
  src : Int
  dst : Int
  answer : Bool
  t1 : Int
  t2 : Int
  t : Int
def RLetter.cells (a : RLetter) : List Value := [.int .i64 a.src, .int .i64 a.dst, .bool a.answer, .int .i64 a.t1, .int .i64 a.t2, .int .i64 a.t]
def RLetter.ok (a : RLetter) : Prop := i64B a.src ∧ i64B a.dst ∧ i64B a.t1 ∧ i64B a.t2 ∧ i64B a.t
structure REdge where
  a : Int
  b : Int
  lo : Int
  hi : Int
def REdge.cells (a : REdge) : List Value := [.int .i64 a.a, .int .i64 a.b, .int .i64 a.lo, .int .i64 a.hi]
def REdge.ok (a : REdge) : Prop := i64B a.a ∧ i64B a.b ∧ i64B a.lo ∧ i64B a.hi
structure REvent where
  id : Int
  lo : Int
  hi : Int
def REvent.cells (a : REvent) : List Value := [.int .i64 a.id, .int .i64 a.lo, .int .i64 a.hi]
def REvent.ok (a : REvent) : Prop := i64B a.id ∧ i64B a.lo ∧ i64B a.hi
structure RLabel where
  year : Int
  month : Int
  day : Int
  h : Int
  m : Int
  s : Int
def RLabel.cells (a : RLabel) : List Value := [.int .i64 a.year, .int .i64 a.month, .int .i64 a.day, .int .i64 a.h, .int .i64 a.m, .int .i64 a.s]
def RLabel.ok (a : RLabel) : Prop := i64B a.year ∧ i64B a.month ∧ i64B a.day ∧ i64B a.h ∧ i64B a.m ∧ i64B a.s

/-- a slice that came in, or was made: its elements are the records zs, k cells each. -/
def IsRecs {E : Type} (w : World) (cells : E → List Value) (ok : E → Prop) (k : Nat) (A : Option Addr) (n c : Nat) (zs : List E) : Prop :=
  zs.length = n ∧ n ≤ c ∧ c ≤ maxLen ∧ (∀ z ∈ zs, ok z) ∧
    (0 < n → ∃ b off, A = some ⟨b, off, none⟩ ∧ b < w.heap.size ∧ ∀ (i : Nat) z, zs[i]? = some z → ∀ (j : Nat) u, (cells z)[j]? = some u → w.cell? ⟨b, off + i * k + j, none⟩ = some u)
/-- an integer's one cell. -/
def intCells (n : Int) : List Value := [.int .i64 n]
def IsInts (w : World) (A : Option Addr) (n c : Nat) (zs : List Int) : Prop := IsRecs w intCells i64B 1 A n c zs
/-- a row of a slice of slices of integers: what it is, and its numbers. -/
structure RInts where
  A : Option Addr
  n : Nat
  c : Nat
  zs : List Int
def RInts.cells (a : RInts) : List Value := [.slice a.A a.n a.c]
def RInts.ok (w : World) (a : RInts) : Prop := IsInts w a.A a.n a.c a.zs
theorem IsRecs.keep {E : Type} {w w' : World} {cells : E → List Value} {ok : E → Prop} {k : Nat} {A : Option Addr} {n c : Nat} {zs : List E} (h : IsRecs w cells ok k A n c zs)
    (hz : w.heap.size ≤ w'.heap.size) (hk : ∀ b o, b < w.heap.size → w'.cell? ⟨b, o, none⟩ = w.cell? ⟨b, o, none⟩) : IsRecs w' cells ok k A n c zs := by
  obtain ⟨h1, h2, h3, h4, h5⟩ := h
  refine ⟨h1, h2, h3, h4, fun hn => ?_⟩
  obtain ⟨b, off, hA, hb, hc⟩ := h5 hn
  exact ⟨b, off, hA, by omega, fun i z hi j u hj => (hk b _ hb).trans (hc i z hi j u hj)⟩
theorem IsRecs.below {E : Type} {w w' : World} {cells : E → List Value} {ok : E → Prop} {k : Nat} {A : Option Addr} {n c : Nat} {zs : List E} (h : IsRecs w cells ok k A n c zs)
    (hb : Below w.heap.size w w') : IsRecs w' cells ok k A n c zs := h.keep hb.size (bcell hb).1
/-- the best of some probes. -/
structure BR where
  at_ : Int
  lo : Int
  hi : Int
  c : Int
def offR (z : RProbe) (p : Int) : SE := offS z.t1 z.t2 z.t3 z.t4 p
def betterB (i : Nat) (s : SE) (lo hi : Int) : Bool := decide (i = 0) || decide (s.hi - s.lo < hi - lo)
def bestGo (p : Int) : List RProbe → Nat → Int → Int → Int → BR
  | [], _, a, lo, hi => ⟨a, lo, hi, 0⟩
  | z :: zs, i, a, lo, hi => if (offR z p).c = 0 then (if betterB i (offR z p) lo hi = true then bestGo p zs (i + 1) i (offR z p).lo (offR z p).hi else bestGo p zs (i + 1) a lo hi) else ⟨0, 0, 0, (offR z p).c⟩
def bestR (p : Int) (zs : List RProbe) : BR := if 40 < zs.length then ⟨0, 0, 0, 4⟩ else if zs.length = 0 then ⟨0, 0, 0, 5⟩ else bestGo p zs 0 0 0 0
theorem list2 {α : Type} {l : List α} (h : l.length = 2) : ∃ c0 c1, l = [c0, c1] := by
  match l, h with
  | [c0, c1], _ => exact ⟨c0, c1, rfl⟩
theorem list3 {α : Type} {l : List α} (h : l.length = 3) : ∃ c0 c1 c2, l = [c0, c1, c2] := by
  match l, h with
  | [c0, c1, c2], _ => exact ⟨c0, c1, c2, rfl⟩
theorem list4 {α : Type} {l : List α} (h : l.length = 4) : ∃ c0 c1 c2 c3, l = [c0, c1, c2, c3] := by
  match l, h with
  | [c0, c1, c2, c3], _ => exact ⟨c0, c1, c2, c3, rfl⟩
theorem list5 {α : Type} {l : List α} (h : l.length = 5) : ∃ c0 c1 c2 c3 c4, l = [c0, c1, c2, c3, c4] := by
  match l, h with
  | [c0, c1, c2, c3, c4], _ => exact ⟨c0, c1, c2, c3, c4, rfl⟩
theorem list6 {α : Type} {l : List α} (h : l.length = 6) : ∃ c0 c1 c2 c3 c4 c5, l = [c0, c1, c2, c3, c4, c5] := by
  match l, h with
  | [c0, c1, c2, c3, c4, c5], _ => exact ⟨c0, c1, c2, c3, c4, c5, rfl⟩
end Go.Proofs.YtjhfikbjfipmkaaDoor
