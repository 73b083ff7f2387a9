/- Texts that serve many laws, one behind the other. -/
import Derived.LoopIn
import Derived.LoopNIn
import Derived.OwnWalkIn
import Derived.RangeFuncBound
import Derived.RangeFuncCalls
import Derived.RangeFuncLeaves
import Derived.RangeFuncNested
import Derived.Shelf.Abstract
import Derived.Shelf.RegionOpen
import Derived.TacticsInMore
import Derived.Test.YtldlandcjegikaaGreatDoorHKA
import Derived.Test.YtldlandcjegikaaGreatDoorHSpanS
import Derived.WalkKit
set_option linter.unusedVariables false
set_option linter.unusedSimpArgs false
namespace Go.Proofs.YtldlandcjegikaaGreatDoor

section
open Go.RowKit Go.Shelf
attribute [local go_sem] Oper.semAt_some
def CutL (s x r : ByteArray) : Prop := 0 < s.size ∧ ((∃ i : Nat, Lib.indexByte s.data.toList 10 = (i : Int) ∧ i < s.size ∧ x = s.extract 0 (i + 1) ∧ r = s.extract (i + 1) s.size) ∨ (Lib.indexByte s.data.toList 10 = -1 ∧ x = s ∧ r = ⟨#[]⟩))
def BoxS (Bn : Nat) (s : ByteArray) (w : World) : Prop := w.heap[Bn]? = some (.cells #[.string s] 9 (0, 0))
theorem BoxS.cell {Bn : Nat} {s : ByteArray} {w : World} (h : BoxS Bn s w) : w.cell? ⟨Bn, 0, none⟩ = some (.string s) := by unfold BoxS at h; simp [World.cell?, h]
theorem BoxS.fz {Bn : Nat} {s : ByteArray} {w : World} (h : BoxS Bn s w) : w.frozen? ⟨Bn, 0, none⟩ = false := by unfold BoxS at h; simp [World.frozen?, h]
theorem BoxS.lt {Bn : Nat} {s : ByteArray} {w : World} (h : BoxS Bn s w) : Bn < w.heap.size := (Array.getElem?_eq_some_iff.1 h).1
theorem BoxS.set {Bn : Nat} {s : ByteArray} {w : World} (h : BoxS Bn s w) (r : ByteArray) : BoxS Bn r (w.setCell ⟨Bn, 0, none⟩ (.string r)) := by
 have := h.lt
 unfold BoxS at h ⊢
 show (w.heap.modify Bn _)[Bn]? = _
 rw [Array.getElem?_modify, h]
 simp
set_option maxRecDepth 100000 in
set_option maxHeartbeats 4000000 in
theorem lines_iter (n N : Nat) (hN : N ≤ 1048576) (l Bn : Nat) (J : ByteArray → World → Prop) (hD : ∀ s W, J s W → J s W.drew)
  (hY : ∀ s x r W, CutL s x r → s.size ≤ N → J s W → BoxS Bn s W → YieldAt Fence.wide (n - 1) Tryz.prog l #[.string x] (W.setCell ⟨Bn, 0, none⟩ (.string r)) fun e W' => e = .returned (.bool true) ∧ J r W' ∧ BoxS Bn r W')
  (s0 : ByteArray) (h0 : s0.size ≤ N) (W : World) (hJ : J s0 W) (hB : BoxS Bn s0 W) :
  CallsIn Fence.wide n Tryz.prog 34 #[.func (.yield l) #[] #[], .pointer (some ⟨Bn, 0, none⟩)] W fun e W' => (∃ v, e = .returned v) ∧ ∃ s, s.size = 0 ∧ J s W' := by
 refine callsIn_of_wp Tryz.func34 rfl trivial ?_ rfl
 simp only [Tryz.ntmps34, List.size_toArray, List.length_cons, List.length_nil, Nat.reduceAdd, Nat.reduceSub, Array.replicate_succ, Array.replicate_zero, List.push_toArray, List.append_toArray, List.nil_append, List.cons_append]
 gi_wp2
 gi_loopw [] (fun wr => ∃ s : ByteArray, s.size ≤ N ∧ J s wr ∧ BoxS Bn s wr) (fun wr => match wr.cell? ⟨Bn, 0, none⟩ with | some (.string s) => s.size | _ => 0)
 case atStart => exact ⟨s0, h0, hJ, hB⟩
 case round =>
  obtain ⟨s, hs, hJs, hBs⟩ := hrel
  have c0 := hBs.cell
  have f0 := hBs.fz
  have b0 := hBs.lt
  clear hJ hB
  by_cases hp : 0 < s.size
  ·rcases (show Lib.indexByte s.data.toList 10 = -1 ∨ ∃ i : Nat, Lib.indexByte s.data.toList 10 = (i : Int) from by
    have := Lib.indexByte_ge s.data.toList 10
    by_cases g : Lib.indexByte s.data.toList 10 = -1
    ·exact .inl g
    ·exact .inr ⟨(Lib.indexByte s.data.toList 10).toNat, by omega⟩) with hi | ⟨i, hi⟩
   ·obtain ⟨fn, tmps, assign, body, hy, hR⟩ := hY s s ⟨#[]⟩ wr ⟨hp, .inr ⟨hi, rfl, rfl⟩⟩ hs hJs hBs
    have CI := fun w => index_byte s w
    rw [hi] at CI
    have p0 : (0 : Int) < (s.size : Int) := by omega
    gi_wp2
    refine ⟨trivial, fun h => (by cases h), (callsIn_wide.2 (CI _)).mono ?_⟩
    rintro e w' ⟨rfl, rfl⟩
    gi_wp2
    refine ⟨fun h => (by cases h), hR.mono ?_⟩
    rintro e W3 ⟨rfl, hJ3, hB3⟩
    have c3 := hB3.cell
    gi_wp2
    go_roundw
    case rel => exact ⟨⟨#[]⟩, Nat.zero_le _, hJ3, hB3⟩
    case measure =>
     simp only [c0, c3]
     exact hp
   ·have hil : i < s.size := by have := (byte_some hi).2.2; rw [str_len2] at this; exact this
    obtain ⟨fn, tmps, assign, body, hy, hR⟩ := hY s (s.extract 0 (i + 1)) (s.extract (i + 1) s.size) wr.drew ⟨hp, .inl ⟨i, hi, hil, rfl, rfl⟩⟩ hs (hD _ _ hJs) hBs
    replace hy : (Instr.yield l #[.string (s.extract 0 (i + 1))]).run Tryz.prog (wr.setCell ⟨Bn, 0, none⟩ (.string (s.extract (i + 1) s.size))).drew = .ok (.round l fn tmps assign body) (wr.setCell ⟨Bn, 0, none⟩ (.string (s.extract (i + 1) s.size))).drew := hy
    have CI := fun w => index_byte s w
    rw [hi] at CI
    have p0 : (0 : Int) < (s.size : Int) := by omega
    gi_wp2
    refine ⟨trivial, fun h => (by cases h), (callsIn_wide.2 (CI _)).mono ?_⟩
    rintro e w' ⟨rfl, rfl⟩
    gi_wp2
    have i1 : IntKind.i64.wrap ((i : Int) + 1) = (i : Int) + 1 := IntWalk.i64_in _ (by omega)
    gi_region
    gi_wp2
    refine ⟨fun h => (by cases h), hR.mono ?_⟩
    rintro e W3 ⟨rfl, hJ3, hB3⟩
    have c3 := hB3.cell
    have s3 : (s.extract (i + 1) s.size).size < s.size := by simp; omega
    gi_wp2
    go_roundw
    case rel => exact ⟨_, by omega, hJ3, hB3⟩
    case measure =>
     simp only [c0, c3]
     exact s3
  ·gi_wp2
   go_end0
   exact ⟨⟨_, rfl⟩, s, by omega, hJs⟩
end


section
open Go.RowKit Go.Shelf
theorem BoxS.putObj {Bn : Nat} {s : ByteArray} {w : World} (h : BoxS Bn s w) {k : Nat} (hk : Bn ≠ k) (o : Obj) : BoxS Bn s (w.putObj k o) := (World.putObj_heap_other hk).trans h
theorem heap_set_other {w : World} {k b : Nat} {o : Nat} {v : Value} (h : k ≠ b) : (w.setCell ⟨b, o, none⟩ v).heap[k]? = w.heap[k]? := Below.heap_setCell w ⟨b, o, none⟩ v k h
theorem wp_lines {g : Operand} {ps : Array Tmp} {assign body : Code} {Q : Exit → Act → World → Prop} {a : Act} {X : World} (Bn N : Nat) (hN : N ≤ 1048576) (hg : a.eval g = .func (.func 34) #[] #[.pointer (some ⟨Bn, 0, none⟩)]) (hps : ps.size = 1)
  (J : ByteArray → World → Prop) (T : ByteArray) (hT : T.size ≤ N) (hBn : Bn < X.heap.size) (hB : BoxS Bn T X)
  (hJ0 : ∀ r, J T ((X.alloc (.deferred (some []))).alloc (.loop r)))
  (hD : ∀ s W, J s W → J s W.drew)
  (hset : ∀ s W q r, J s W → BoxS Bn q W → J s (W.setCell ⟨Bn, 0, none⟩ (.string r)))
  (hput : ∀ s W r r', J s W → W.heap[X.heap.size + 1]? = some (.loop r) → J s (W.putObj (X.heap.size + 1) (.loop r')))
  (a₁ : ByteArray → Act)
  (hassign : ∀ (x : ByteArray) (W : World) (K : Act → World → Prop), K (a₁ x) W → assign.wpIn (Fence.wide.inRound (X.heap.size + 1)) 1 Tryz.prog (Exit.then K (fun _ _ _ => False)) { tmps := (ps.zip #[.string x]).foldl (fun t (p, v) => t.setIfInBounds p v) a.tmps, defers := [] } W)
  (hbody : ∀ (s x r : ByteArray) (W : World) (lr : Loop), CutL s x r → s.size ≤ N → J s W → BoxS Bn r W → W.heap[X.heap.size + 1]? = some (.loop lr) → W.heap[X.heap.size]? = some (.deferred (some [])) →
   body.wpIn (Fence.wide.inRound (X.heap.size + 1)) 1 Tryz.prog (fun e _ W' => e = .normal ∧ J r W' ∧ BoxS Bn r W' ∧ W'.heap[X.heap.size + 1]? = some (.loop lr) ∧ W'.heap[X.heap.size]? = some (.deferred (some []))) (a₁ x) W)
  (hdone : ∀ (W : World) (s : ByteArray), s.size = 0 → J s W → W.heap[X.heap.size]? = some (.deferred (some [])) → Q .normal { a with defers := { target := .collected X.heap.size, args := #[] } :: a.defers } W) :
  (Code.rangeFunc g ps assign body).wpIn Fence.wide 3 Tryz.prog Q a X := by
 refine wpIn_rangeFunc ?_
 intro fn hfn
 obtain ⟨rec, hrec⟩ : ∃ rec : LoopState → Option Code → Loop, rec = fun st pe => { state := st, pending := pe, fn, tmps := a.tmps, params := ps, assign, body, defers := X.heap.size } := ⟨_, rfl⟩
 obtain ⟨W1, hW1⟩ : ∃ W1, (X.alloc (.deferred (some []))).alloc (.loop (rec .ready none)) = W1 := ⟨_, rfl⟩
 have hL1 : W1.heap[X.heap.size + 1]? = some (.loop (rec .ready none)) := by
  rw [← hW1]; have := World.alloc_heap_new (X.alloc (.deferred (some []))) (.loop (rec .ready none)); rwa [World.size_alloc] at this
 have hK1 : W1.heap[X.heap.size]? = some (.deferred (some [])) := by
  rw [← hW1]; exact (Below.heap_alloc _ _ _ (by simp)).trans (World.alloc_heap_new X _)
 have hB1 : BoxS Bn T W1 := by
  rw [← hW1]; exact (Below.heap_alloc _ _ _ (by simp; omega)).trans ((Below.heap_alloc _ _ _ hBn).trans hB)
 have hJ1 : J T W1 := by rw [← hW1]; exact hJ0 _
 refine ⟨X.heap.size + 1, [{ target := .collected X.heap.size, args := #[] }], W1, { target := .fn (.func 34) #[.pointer (some ⟨Bn, 0, none⟩)], args := #[.func (.yield (X.heap.size + 1)) #[] #[]] }, W1, 34,
  #[.func (.yield (X.heap.size + 1)) #[] #[]] ++ #[.pointer (some ⟨Bn, 0, none⟩)], W1, ?_, ?_, ?_, ?_, fun _ => by omega, ?_⟩
 ·rw [← hW1, hrec]; exact run_enterLoop_outer _ _ _ _ _
 ·simp only [resolve, hg]
  simp [go_sem]
 ·intro f' hf'; trivial
 ·have eg := enters_of Tryz.func34 kRf rfl
  simp [invoke, go_sem, eg]
 ·refine (lines_iter 2 N hN (X.heap.size + 1) Bn (fun s W => J s W ∧ W.heap[X.heap.size + 1]? = some (.loop (rec .ready none)) ∧ W.heap[X.heap.size]? = some (.deferred (some []))) (fun s W h => ⟨hD s W h.1, h.2⟩) ?_ T hT W1 ⟨hJ1, hL1, hK1⟩ hB1).mono ?_
  ·rintro s x r W hc hs ⟨hj, hl, hk⟩ hbx
   have hl2 : (W.setCell ⟨Bn, 0, none⟩ (.string r)).heap[X.heap.size + 1]? = some (.loop (rec .ready none)) := (heap_set_other (by omega)).trans hl
   have hk2 : (W.setCell ⟨Bn, 0, none⟩ (.string r)).heap[X.heap.size]? = some (.deferred (some [])) := (heap_set_other (by omega)).trans hk
   have hb2 := hbx.set r
   have hj2 := hset s W s r hj hbx
   have hlt : X.heap.size + 1 < (W.setCell ⟨Bn, 0, none⟩ (.string r)).heap.size := (Array.getElem?_eq_some_iff.1 hl2).1
   have hy := run_yield (P := Tryz.prog) (args := #[.string x]) hl2 (by rw [hrec]; exact hps.symm)
   rw [hrec] at hy
   refine ⟨fn, _, assign, body, hy, roundIn_of_wpIn hfn (hassign x _ _ ⟨_, run_beginRound hl2 (by rw [hrec]), ?_⟩)⟩
   have hl3 : ((W.setCell ⟨Bn, 0, none⟩ (.string r)).putObj (X.heap.size + 1) (.loop { rec .ready none with state := .busy })).heap[X.heap.size + 1]? = some (.loop { rec .ready none with state := .busy }) := World.putObj_heap_same hlt
   have hk3 : ((W.setCell ⟨Bn, 0, none⟩ (.string r)).putObj (X.heap.size + 1) (.loop { rec .ready none with state := .busy })).heap[X.heap.size]? = some (.deferred (some [])) := (World.putObj_heap_other (by omega)).trans hk2
   refine wpIn_mono (hbody s x r _ _ hc hs (hput _ _ _ _ hj2 hl2) (hb2.putObj (by omega) _) hl3 hk3) ?_
   rintro e a3 W3 ⟨rfl, hj4, hb4, hl4, hk4⟩
   have hr := run_endRound (P := Tryz.prog) none hl4
   have hlt4 := (Array.getElem?_eq_some_iff.1 hl4).1
   refine ⟨_, _, hr, rfl, ⟨hput _ _ _ _ hj4 hl4, ?_, (World.putObj_heap_other (by omega)).trans hk4⟩, hb4.putObj (by omega) _⟩
   rw [World.putObj_heap_same hlt4, hrec]
   rfl
  ·rintro e W2 ⟨⟨v, rfl⟩, s, hs0, hj, hl, hk⟩
   exact ⟨none, _, by have := run_endLoop (P := Tryz.prog) hl (by rw [hrec]; simp); rw [hrec] at this; exact this, hdone _ s hs0 (hput _ _ _ _ hj hl) ((World.putObj_heap_other (by omega)).trans hk)⟩
end
end Go.Proofs.YtldlandcjegikaaGreatDoor
