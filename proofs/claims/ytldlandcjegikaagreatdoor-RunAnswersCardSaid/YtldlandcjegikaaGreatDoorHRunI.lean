/- Package run: what lies between two lines of a session, and what an answer and a write leave of it. -/
import Derived.Test.YtldlandcjegikaaGreatDoorHK5
import Derived.Test.YtldlandcjegikaaGreatDoorHK8
namespace Go.Proofs.YtldlandcjegikaaGreatDoor
open Go.RowKit
set_option linter.unusedVariables false
set_option linter.unusedSimpArgs false
theorem not_mine {W : World} {a : NAd} {t : Int} {uv : Value} {us : List RLetter} {K : Nat} {S : Nat → NSt} {D : Nat} (h : NetAt W a ssR rsR 100 t uv us K S) (f : FixB a D) {k : Nat} {o : Obj} (hk : D ≤ k) (ho : W.heap[k]? = some o) (hl : ∀ c fz, o ≠ .cells c 110 fz) : ¬ NetMine a uv k := by
 rintro (e | e | ⟨i, hi, e⟩)
 ·have := f.g; omega
 ·obtain ⟨cur, hb⟩ := own_blk h.W.row e
  unfold Blk at hb
  rw [ho] at hb
  exact hl _ _ (Option.some.inj hb)
 ·have := f.n i hi
  rcases e with e | e <;> omega
theorem builder_same {T e : TypeId} {B b : Nat} {bs : List Value} {W W' : World} (h : Lib.IsBuilderF T e B b bs W) (hb : W'.heap[b]? = W.heap[b]?) (hr : ∀ (k : Nat) (c : Array Value) (fz : Nat × Nat), B ≤ k → W.heap[k]? = some (Obj.cells c e fz) → W'.heap[k]? = W.heap[k]?) : Lib.IsBuilderF T e B b bs W' := by
 have one : ∀ p, Lib.BuilderAtF T e B b p bs W → Lib.BuilderAtF T e B b p bs W' := by
  rintro p ⟨h1, v, h2, h3, h4⟩
  refine ⟨h1, v, hb.trans h2, ⟨h3.1, ?_⟩, h4⟩
  rcases h3.2 with q | ⟨g, cap, cur, fz, q1, q2, q3, q4⟩
  ·exact .inl q
  ·exact .inr ⟨g, cap, cur, fz, q1, q2, (hr g _ _ q2 q3).trans q3, q4⟩
 exact h.imp (one _) (one _)
theorem builder_blk {T e : TypeId} {B b : Nat} {bs : List Value} {W : World} (h : Lib.IsBuilderF T e B b bs W) : ∃ cs, W.heap[b]? = some (.cells cs T (0, 0)) := by
 rcases h with ⟨_, v, h, _⟩ | ⟨_, v, h, _⟩ <;> exact ⟨_, h⟩
structure RunS (w W : World) (a : NAd) (D : Nat) (t : Int) (uv : Value) (us : List RLetter) (K : Nat) (S : Nat → NSt) (os : List (List UInt8)) : Prop where
 N : NetAt W a ssR rsR 100 t uv us K S
 bd : Lib.IsBuilderF 50 5 (D + 1) (D + 1) (Lib.byteCells (outL os)) W
 dk : Blk W D 46 #[.pointer (some ⟨a.N, 0, none⟩)]
 lo : Below w.heap.size w W
section
variable {w W W' : World} {a : NAd} {D : Nat} {t : Int} {uv : Value} {us : List RLetter} {K : Nat} {S : Nat → NSt} {os : List (List UInt8)}
theorem RunS.lt (h : RunS w W a D t uv us K S os) : D + 1 < W.heap.size := by
 obtain ⟨cs, hb⟩ := builder_blk h.bd
 exact (Array.getElem?_eq_some_iff.1 hb).1
theorem RunS.own (h : RunS w W a D t uv us K S os) {k : Nat} {o : Obj} (ho : W.heap[k]? = some o) (hl : ∀ c fz, o ≠ .cells c 110 fz) : uv.ownBlock ≠ some k := by
 intro e
 obtain ⟨cur, hb⟩ := own_blk h.N.W.row e
 unfold Blk at hb
 rw [ho] at hb
 exact hl _ _ (Option.some.inj hb)
theorem RunS.kept {P : Nat → Prop} (h : RunS w W a D t uv us K S os) (f : FixB a D) (hwD : w.heap.size ≤ D) (hK : Kept P W W') (hP : ∀ k, P k → D + 1 < k ∧ ∃ o, W.heap[k]? = some o ∧ (∀ c fz, o ≠ .cells c 110 fz) ∧ (∀ c fz, o ≠ .cells c 5 fz)) : RunS w W' a D t uv us K S os := by
 have hlt := h.lt
 refine ⟨h.N.kept hK f (fun q e => ?_), builder_same h.bd (hK.block _ hlt (fun e => by have := (hP _ e).1; omega)) (fun k c fz _ hk => hK.block k (Array.getElem?_eq_some_iff.1 hk).1 (fun e => ?_)), ?_, h.lo.trans (hK.toBelow h.lo.size (fun k e => by have := (hP k e).1; omega))⟩
 ·obtain ⟨h1, o, h2, h3, h4⟩ := hP q e
  exact ⟨by omega, h.own h2 h3⟩
 ·obtain ⟨_, o, h2, _, h4⟩ := hP k e
  rw [hk] at h2
  exact h4 c fz (Option.some.inj h2).symm
 ·exact (hK.block D (by omega) (fun e => by have := (hP _ e).1; omega)).trans h.dk
theorem RunS.answer {out : List UInt8} {t' : Int} {us' : List RLetter} {S' : Nat → NSt} {e : Ending} (h : RunS w W a D t uv us K S os) (f : FixB a D) (hg : w.heap.size ≤ a.g) (hd : AnsDone W a uv K out t' us' S' e W') :
  e = .returned (.string ⟨out.toArray⟩) ∧ ∃ uv' K', K' ≤ K + 1 ∧ RunS w W' a D t' uv' us' K' S' os ∧ (∀ k o, D ≤ k → W.heap[k]? = some o → (∀ c fz, o ≠ .cells c 110 fz) → W'.heap[k]? = some o) := by
 obtain ⟨he, uv', K', hK', hN, hK, _⟩ := hd
 have hlt := h.lt
 have stay : ∀ k o, D ≤ k → W.heap[k]? = some o → (∀ c fz, o ≠ .cells c 110 fz) → W'.heap[k]? = some o := fun k o hk ho hl => (hK.block k (Array.getElem?_eq_some_iff.1 ho).1 (not_mine h.N f hk ho hl)).trans ho
 refine ⟨he, uv', K', hK', ⟨hN, ?_, ?_, kept_base hg h.N h.lo hK⟩, stay⟩
 ·obtain ⟨cs, hb⟩ := builder_blk h.bd
  exact builder_same h.bd ((stay _ _ (by omega) hb (fun c fz e => by cases e)).trans hb.symm) (fun k c fz g hk => (stay k _ (by omega) hk (fun c fz e => by cases e)).trans hk.symm)
 ·exact stay D _ (Nat.le_refl _) h.dk (fun c fz e => by cases e)
theorem RunS.write {o : List UInt8} (h : RunS w W a D t uv us K S os) (f : FixB a D) (hwD : w.heap.size ≤ D) (h1 : Lib.BuilderAtF 50 5 (D + 1) (D + 1) (.pointer (some ⟨D + 1, 0, none⟩)) (Lib.byteCells (outL os) ++ Lib.strCells ⟨(o ++ [10]).toArray⟩) W') (h2 : Below (D + 1) W W') (h3 : Lib.OthersKept 5 (some (D + 1)) W W') :
  RunS w W' a D t uv us K S (os ++ [o]) ∧ (∀ k o, k ≠ D + 1 → W.heap[k]? = some o → (∀ c fz, o ≠ .cells c 5 fz) → W'.heap[k]? = some o) := by
 have stay : ∀ k o, k ≠ D + 1 → W.heap[k]? = some o → (∀ c fz, o ≠ .cells c 5 fz) → W'.heap[k]? = some o := fun k o hk ho hl => h3 k o ho (fun e => hk (Option.some.inj e)) hl
 obtain ⟨bs, hbk⟩ := builder_blk h.bd
 have hK : Kept (fun k => k = D + 1 ∨ (D + 1 ≤ k ∧ ∃ c fz, W.heap[k]? = some (Obj.cells c 5 fz))) W W' := by
  refine ⟨h2.os, h2.tape, h2.output, h2.size, fun k hk hn => ?_⟩
  by_cases g : k < D + 1
  ·exact h2.block k g
  ·have hne : k ≠ D + 1 := fun e => hn (.inl e)
   have ho : W.heap[k]? = some W.heap[k] := Array.getElem?_eq_getElem hk
   rw [ho]
   exact stay k _ hne ho (fun c fz e => hn (.inr ⟨by omega, c, fz, by rw [ho, e]⟩))
 refine ⟨⟨h.N.kept hK f (fun q e => ?_), .inr ?_, stay D _ (by omega) h.dk (fun c fz e => by cases e), h.lo.trans (h2.mono (by omega))⟩, stay⟩
 ·rcases e with rfl | ⟨e, c, fz, hq⟩
  ·exact ⟨by omega, h.own hbk (fun c fz e => by cases e)⟩
  ·exact ⟨by omega, h.own hq (fun c fz e => by cases e)⟩
 ·rw [outL_snoc, Lib.byteCells_append]
  exact h1
end
end Go.Proofs.YtldlandcjegikaaGreatDoor
