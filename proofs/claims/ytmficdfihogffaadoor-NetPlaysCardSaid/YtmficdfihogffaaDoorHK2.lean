/- Texts that serve many laws, one behind the other. -/
import Derived.BigQuiet
import Derived.BigRegion
import Derived.Carry
import Derived.ChangeVars
import Derived.Deep.AppendLies
import Derived.Deep.DeepCutAuto
import Derived.Deep.RegionHeld3
import Derived.JoinedOf
import Derived.LaidHandle
import Derived.LaidLaws
import Derived.RowKitTokens
import Derived.SevenTiedAt
import Derived.Stop.Joined
import Derived.Test.YtmficdfihogffaaDoorCards
import Derived.Test.YtmficdfihogffaaDoorHErrs
import Derived.Test.YtmficdfihogffaaDoorHK1
import Derived.Test.YtmficdfihogffaaDoorHProbe
import Derived.Test.YtmficdfihogffaaDoorHRef1
import Derived.Test.YtmficdfihogffaaDoorHWorld
import Derived.Test.YtmficdfihogffaaDoorTie
/- What a tied row's proof asks of the listed variable errors.errorType: its cell; a world that meets the condition; no stand-ins. -/
namespace Go.Proofs.YtmficdfihogffaaDoor
open Go.ChangeShapes Go.WideShapes Go.ChangeAt Go.RowKit
set_option linter.unusedVariables false
set_option linter.unusedSimpArgs false
theorem door_et : Tryd.prog.globalNamed "errors.errorType" = some 0 := by kernel_rfl
theorem door_rt : (Tryd.prog.cutTypes.find? (·.1 == "internal/reflectlite.rtype")).map (·.2) = some 166 := by kernel_rfl
theorem door_oneRow : ((List.range 210).filter fun t => Tryd.prog.rowNamed t [101, 114, 114, 111, 114]) = [27] := by kernel_rfl
theorem door_size : Tryd.prog.types.size = 210 := by kernel_rfl
def laidList : List (String × DataW Unit) := [("errors.errorType", Rows.laid_errors_errorType)]
theorem handle_of_laid {W : World} (h : laidMetH Tryd.prog laidList W) : HandleAt W := by
  have h' : laidMet Tryd.prog [] W ∧ handlesMet Tryd.prog laidList W := h
  obtain ⟨name, u, ty, e1, e2, e3, e4, e5⟩ := h'.2 _ (List.mem_singleton.2 rfl)
  have en : name = [101, 114, 114, 111, 114] := (Option.some.inj e1).symm
  subst en
  obtain rfl := Option.some.inj (door_rt.symm.trans e2)
  have hm : ty ∈ (List.range 210).filter fun t => Tryd.prog.rowNamed t [101, 114, 114, 111, 114] := List.mem_filter.2 ⟨List.mem_range.2 (by rw [← door_size]; exact e3), e4⟩
  rw [door_oneRow] at hm
  obtain rfl := List.mem_singleton.1 hm
  have hh : typeHandle Tryd.prog 27 = .pointer (some ⟨1, 27, none⟩) := by kernel_rfl
  rw [hh] at e5
  have h3 := World.var?_cell door_et e5 0
  unfold HandleAt
  simpa using h3
noncomputable def laidWorld (os : Os) : World :=
  let w0 := World.holding Tryd.prog os ⟨#[], #[], []⟩
  { w0 with heap := w0.heap.modify 0 fun
      | .cells _ t frozen => .cells #[.iface 166 (.agg #[.pointer (some ⟨1, 27, none⟩)])] t frozen
      | o => o }
theorem laidWorld_met (os : Os) (args : Array Value) : laidMetH Tryd.prog laidList ((laidWorld os).forCall (fun _ _ => 0) ⟨#[], args, []⟩).memory :=
  laidMetH_of_parts (laidMet_nil _ _) (by kernel_rfl)
theorem noStandIn {P : Program} {ps : Array TypeId} {j : Nat} {t : TypeId} (h : ps.all (fun t => P.wantsStandIn t == false) = true) (ht : ps[j]? = some t) : P.wantsStandIn t = false := by
  obtain ⟨hj, rfl⟩ := Array.getElem?_eq_some_iff.1 ht
  have := Array.all_eq_true.1 h j hj
  simpa using this
end Go.Proofs.YtmficdfihogffaaDoor

/- Letters under way in a world: what is kept, and an ask, walked. -/
namespace Go.Proofs.YtmficdfihogffaaDoor
open Go.RowKit
set_option linter.unusedVariables false
set_option linter.unusedSimpArgs false
/-- what belongs to a world: its block, and that of its letters. -/
def Mine (g : Nat) (uv : Value) (k : Nat) : Prop := k = g ∨ uv.ownBlock = some k
/-- a world behind a pointer, with its letters in a row of its own. -/
structure WorldU (w : World) (g B n : Nat) (ss rs : List Int) (t : Int) (uv : Value) (us : List RLetter) : Prop where
  ex : ∃ gs cs gr cr, Blk w g 118 #[.slice (some ⟨gs, 0, none⟩) n cs, .slice (some ⟨gr, 0, none⟩) n cr, .int .i64 t, uv] ∧ gs ≠ g ∧ gr ≠ g ∧ gs < B ∧ gr < B ∧
    n ≤ cs ∧ n ≤ cr ∧ cs ≤ maxLen ∧ cr ≤ maxLen ∧ (∀ (i : Nat) z, ss[i]? = some z → w.cell? ⟨gs, i, none⟩ = some (.int .i64 z)) ∧ (∀ (i : Nat) z, rs[i]? = some z → w.cell? ⟨gr, i, none⟩ = some (.int .i64 z))
  gB : g < B
  Bw : B ≤ w.heap.size
  row : w.ownsRow B 87 6 uv us.length (us.flatMap RLetter.cells)
  l40 : us.length ≤ 40
  lok : ∀ z ∈ us, RLetter.ok z
  ls : ss.length = n
  lr : rs.length = n
  sb : ∀ (i : Nat) z, ss[i]? = some z → 0 ≤ z ∧ z ≤ 1000000
  rb : ∀ (i : Nat) z, rs[i]? = some z → -1000 ≤ z ∧ z ≤ 1000
  t0 : 0 ≤ t
  t1 : t ≤ 1000000000
  n1 : 1 ≤ n
  n6 : n ≤ 6
theorem WorldU.at {w : World} {g B n : Nat} {ss rs : List Int} {t : Int} {uv : Value} {us : List RLetter} (h : WorldU w g B n ss rs t uv us) : WorldAt w g n ss rs t uv := by
  obtain ⟨⟨gs, cs, gr, cr, k1, k2, k3, k4, k5, k6, k7, k8, k9, k10, k11⟩, gB, Bw, row, l40, lok, ls, lr, sb, rb, t0, t1, n1, n6⟩ := h
  exact ⟨⟨gs, cs, gr, cr, k1, k2, k3, by omega, by omega, k6, k7, k8, k9, k10, k11⟩, ls, lr, sb, rb, t0, t1, n1, n6⟩
theorem WorldU.low {w : World} {g B n : Nat} {ss rs : List Int} {t : Int} {uv : Value} {us : List RLetter} (h : WorldU w g B n ss rs t uv us) : ∀ k, uv.ownBlock = some k → B ≤ k ∧ k < w.heap.size := h.row.lt
theorem WorldU.next {w w' : World} {g B n : Nat} {ss rs : List Int} {t t' : Int} {uv uv' : Value} {us us' : List RLetter} (h : WorldU w g B n ss rs t uv us) (hk : Kept (Mine g uv) w w')
    (hb : ∀ a b, Blk w g 118 #[a, b, .int .i64 t, uv] → Blk w' g 118 #[a, b, .int .i64 t', uv'])
    (row : w'.ownsRow B 87 6 uv' us'.length (us'.flatMap RLetter.cells)) (l40 : us'.length ≤ 40) (lok : ∀ z ∈ us', RLetter.ok z) (t0 : 0 ≤ t') (t1 : t' ≤ 1000000000) : WorldU w' g B n ss rs t' uv' us' := by
  have hlow := h.low
  obtain ⟨⟨gs, cs, gr, cr, k1, k2, k3, k4, k5, k6, k7, k8, k9, k10, k11⟩, gB, Bw, _, _, _, ls, lr, sb, rb, _, _, n1, n6⟩ := h
  have hc : ∀ b, b < B → b ≠ g → ∀ o, w'.cell? ⟨b, o, none⟩ = w.cell? ⟨b, o, none⟩ := fun b hB hg o => World.cell?_of_block (hk.block b (by omega) (fun e => by
    rcases e with e | e
    · exact hg e
    · have := (hlow b e).1; omega))
  exact ⟨⟨gs, cs, gr, cr, hb _ _ k1, k2, k3, k4, k5, k6, k7, k8, k9, fun i z hz => (hc gs k4 k2 i).trans (k10 i z hz), fun i z hz => (hc gr k5 k3 i).trans (k11 i z hz)⟩, gB, Nat.le_trans Bw hk.size, row, l40, lok, ls, lr, sb, rb, t0, t1, n1, n6⟩
theorem WorldU.below {w w' : World} {g B n : Nat} {ss rs : List Int} {t : Int} {uv : Value} {us : List RLetter} (h : WorldU w g B n ss rs t uv us) (hb : Below w.heap.size w w') : WorldU w' g B n ss rs t uv us :=
  h.next ((Kept.refl _ w).below hb) (fun _ _ k => k.below hb k.lt) (own_below h.row hb) h.l40 h.lok h.t0 h.t1
/-- another thing is touched. -/
theorem WorldU.other {w w' : World} {g B n : Nat} {ss rs : List Int} {t : Int} {uv : Value} {us : List RLetter} {P : Nat → Prop} (h : WorldU w g B n ss rs t uv us) (hk : Kept P w w') (hP : ∀ k, P k → B ≤ k ∧ uv.ownBlock ≠ some k) : WorldU w' g B n ss rs t uv us := by
  have hlow := h.low
  have hrow := h.row
  have gB := h.gB
  have hall : ∀ k, k < w.heap.size → (k < B ∨ uv.ownBlock = some k) → w'.heap[k]? = w.heap[k]? := fun k hk1 hk2 => hk.block k hk1 (fun e => by
    obtain ⟨h1, h2⟩ := hP k e
    rcases hk2 with h3 | h3
    · omega
    · exact h2 h3)
  obtain ⟨⟨gs, cs, gr, cr, k1, k2, k3, k4, k5, k6, k7, k8, k9, k10, k11⟩, _, Bw, _, l40, lok, ls, lr, sb, rb, t0, t1, n1, n6⟩ := h
  refine ⟨⟨gs, cs, gr, cr, (hall g (by omega) (.inl gB)).trans k1, k2, k3, k4, k5, k6, k7, k8, k9, fun i z hz => (World.cell?_of_block (hall gs (by omega) (.inl k4))).trans (k10 i z hz), fun i z hz => (World.cell?_of_block (hall gr (by omega) (.inl k5))).trans (k11 i z hz)⟩, gB, Nat.le_trans Bw hk.size, ?_, l40, lok, ls, lr, sb, rb, t0, t1, n1, n6⟩
  refine ⟨hrow.1, ?_⟩
  rcases hrow.2 with h1 | ⟨q, cap, cur, rfl, hB, hg, hn, hm, hs, ht⟩
  · exact .inl h1
  · exact .inr ⟨q, cap, cur, rfl, hB, (hall q (hlow q rfl).2 (.inr rfl)).trans hg, hn, hm, hs, ht⟩
/-- a new world has no letters. -/
theorem world_New_u (A : Option Addr) (n c : Nat) (zs : List Int) (A2 : Option Addr) (n2 c2 : Nat) (ys : List Int) (p : Int) (w : World) (h : IsInts w A n c zs) (h2 : IsInts w A2 n2 c2 ys) (hc : newC zs ys p = 0) :
    Calls Tryd.prog 22 #[.slice A n c, .slice A2 n2 c2, .int .i64 p] w fun e w' => ∃ g B, e = .returned (.tuple #[.pointer (some ⟨g, 0, none⟩), .nilIface]) ∧ w.heap.size ≤ g ∧ WorldU w' g B n zs ys 0 (.slice none 0 0) [] ∧ Below w.heap.size w w' := by
  refine (world_New_ok A n c zs A2 n2 c2 ys p w h h2 hc).mono ?_
  rintro e w' ⟨g, rfl, hg, hw, hb⟩
  have hlt := hw.lt
  obtain ⟨⟨gs, cs, gr, cr, k1, k2, k3, k4, k5, k6, k7, k8, k9, k10, k11⟩, ls, lr, sb, rb, t0, t1, n1, n6⟩ := hw
  exact ⟨g, w'.heap.size, rfl, hg, ⟨⟨gs, cs, gr, cr, k1, k2, k3, k4, k5, k6, k7, k8, k9, k10, k11⟩, hlt, Nat.le_refl _, own_nil _ _ _ _, by simp, by simp, ls, lr, sb, rb, t0, t1, n1, n6⟩, hb⟩
/-- what an ask or an answer leaves. -/
def Sent (w : World) (g B n : Nat) (ss rs : List Int) (t : Int) (uv : Value) (us : List RLetter) (w' : World) : Prop := ∃ uv', WorldU w' g B n ss rs t uv' us ∧ Kept (Mine g uv) w w' ∧ (∀ q, uv'.ownBlock = some q → uv.ownBlock = some q ∨ w.heap.size ≤ q)
theorem sent_done {w W w5 : World} {g B n gg m cap : Nat} {ss rs : List Int} {t : Int} {uv : Value} {us : List RLetter} {L : RLetter} (h : WorldU w g B n ss rs t uv us) (hW : Below w.heap.size w W) (hg5 : W.grownBy w5 uv.ownBlock) (hgg : uv.ownBlock = some gg ∨ gg = W.heap.size)
    (ho5 : w5.ownsRow B 87 6 (.slice (some ⟨gg, 0, none⟩) m cap) (us.length + 1) (us.flatMap RLetter.cells ++ RLetter.cells L)) (hl : us.length < 40) (hok : RLetter.ok L) : Sent w g B n ss rs t uv (us ++ [L]) (w5.setCell ⟨g, 3, none⟩ (.slice (some ⟨gg, 0, none⟩) m cap)) := by
  have hlow := h.low
  have hgB := h.gB
  have hBw := h.Bw
  have hne : some g ≠ uv.ownBlock := fun e => by have := (hlow _ e.symm).1; omega
  refine ⟨.slice (some ⟨gg, 0, none⟩) m cap, h.next (((((Kept.refl _ w).below hW).grown hg5 (fun k e => .inl (.inr e))).set g 3 _ (.inl (.inl rfl)))) (fun a b k1 => ?_) ?_ ?_ ?_ h.t0 h.t1, ((((Kept.refl _ w).below hW).grown hg5 (fun k e => .inl (.inr e))).set g 3 _ (.inl (.inl rfl))), fun q e => ?_⟩
  · exact (((k1.below hW k1.lt).grown hg5 hne).set 3 _).conv rfl
  · exact own_touched (own_snoc RLetter.cells ho5) ((Touched.refl g w5).set 3 _) hgB
  · rw [List.length_append]; simp; omega
  · intro z hz
    rcases List.mem_append.1 hz with h1 | h1
    · exact h.lok z h1
    · simp at h1; subst h1; exact hok
  · have e : gg = q := by simpa [Value.ownBlock] using e
    subst e
    rcases hgg with h1 | h1
    · exact .inl h1
    · right; have := hW.size; omega
end Go.Proofs.YtmficdfihogffaaDoor

/- The reference's world in a net's block of clocks: what it holds, has, Read, walked. -/
namespace Go.Proofs.YtmficdfihogffaaDoor
open Go.RowKit
set_option linter.unusedVariables false
set_option linter.unusedSimpArgs false
variable {qv : Value}
/-- the reference's world behind a pointer: its rows are what came in (as they were in W0). -/
structure RWorld (qv : Value) (W0 w : World) (M B n : Nat) (A1 A2 : Option Addr) (c1 c2 : Nat) (t : Int) (uv : Value) (us : List RLetter) : Prop where
  blk : Blk w M 58 #[.slice A1 n c1, .slice A2 n c2, .int .i64 t, uv, qv]
  old : Below W0.heap.size W0 w
  Mo : W0.heap.size ≤ M
  MB : M < B
  Bw : B ≤ w.heap.size
  row : w.ownsRow B 87 6 uv us.length (us.flatMap RLetter.cells)
  l40 : us.length ≤ 40
  lok : ∀ z ∈ us, RLetter.ok z
  t0 : 0 ≤ t
  t1 : t ≤ 1000000000
theorem RWorld.low {W0 w : World} {M B n : Nat} {A1 A2 : Option Addr} {c1 c2 : Nat} {t : Int} {uv : Value} {us : List RLetter} (h : RWorld qv W0 w M B n A1 A2 c1 c2 t uv us) : ∀ k, uv.ownBlock = some k → B ≤ k ∧ k < w.heap.size := h.row.lt
theorem RWorld.next {W0 w w' : World} {M B n : Nat} {A1 A2 : Option Addr} {c1 c2 : Nat} {t t' : Int} {uv uv' : Value} {us us' : List RLetter} (h : RWorld qv W0 w M B n A1 A2 c1 c2 t uv us) (hk : Kept (Mine M uv) w w')
    (hb : Blk w' M 58 #[.slice A1 n c1, .slice A2 n c2, .int .i64 t', uv', qv])
    (row : w'.ownsRow B 87 6 uv' us'.length (us'.flatMap RLetter.cells)) (l40 : us'.length ≤ 40) (lok : ∀ z ∈ us', RLetter.ok z) (t0 : 0 ≤ t') (t1 : t' ≤ 1000000000) : RWorld qv W0 w' M B n A1 A2 c1 c2 t' uv' us' := by
  have hlow := h.low
  have hMo := h.Mo
  have hMB := h.MB
  refine ⟨hb, h.old.trans (hk.toBelow h.old.size fun k e => ?_), h.Mo, h.MB, Nat.le_trans h.Bw hk.size, row, l40, lok, t0, t1⟩
  rcases e with e | e
  · omega
  · have := (hlow k e).1; omega
theorem RWorld.below {W0 w w' : World} {M B n : Nat} {A1 A2 : Option Addr} {c1 c2 : Nat} {t : Int} {uv : Value} {us : List RLetter} (h : RWorld qv W0 w M B n A1 A2 c1 c2 t uv us) (hb : Below w.heap.size w w') : RWorld qv W0 w' M B n A1 A2 c1 c2 t uv us :=
  h.next ((Kept.refl _ w).below hb) (h.blk.below hb h.blk.lt) (own_below h.row hb) h.l40 h.lok h.t0 h.t1
/-- another thing is touched. -/
theorem RWorld.other {W0 w w' : World} {M B n : Nat} {A1 A2 : Option Addr} {c1 c2 : Nat} {t : Int} {uv : Value} {us : List RLetter} {P : Nat → Prop} (h : RWorld qv W0 w M B n A1 A2 c1 c2 t uv us) (hk : Kept P w w') (hP : ∀ k, P k → W0.heap.size ≤ k ∧ k ≠ M ∧ uv.ownBlock ≠ some k) : RWorld qv W0 w' M B n A1 A2 c1 c2 t uv us := by
  have hlow := h.low
  have hrow := h.row
  refine ⟨(hk.block M h.blk.lt (fun e => (hP M e).2.1 rfl)).trans h.blk, h.old.trans (hk.toBelow h.old.size fun k e => (hP k e).1), h.Mo, h.MB, Nat.le_trans h.Bw hk.size, ?_, h.l40, h.lok, h.t0, h.t1⟩
  refine ⟨hrow.1, ?_⟩
  rcases hrow.2 with h1 | ⟨q, cap, cur, rfl, hB, hg, hn, hm, hs, ht⟩
  · exact .inl h1
  · exact .inr ⟨q, cap, cur, rfl, hB, (hk.block q (hlow q rfl).2 (fun e => (hP q e).2.2 rfl)).trans hg, hn, hm, hs, ht⟩
/-- what an ask or an answer leaves. -/
def RSent (qv : Value) (W0 w : World) (M B n : Nat) (A1 A2 : Option Addr) (c1 c2 : Nat) (t : Int) (uv : Value) (us : List RLetter) (w' : World) : Prop := ∃ uv', RWorld qv W0 w' M B n A1 A2 c1 c2 t uv' us ∧ Kept (Mine M uv) w w' ∧ (∀ q, uv'.ownBlock = some q → uv.ownBlock = some q ∨ w.heap.size ≤ q)
theorem rsent_done {W0 w W w5 : World} {M B n gg m cap : Nat} {A1 A2 : Option Addr} {c1 c2 : Nat} {t : Int} {uv : Value} {us : List RLetter} {L : RLetter} (h : RWorld qv W0 w M B n A1 A2 c1 c2 t uv us) (hW : Below w.heap.size w W) (hg5 : W.grownBy w5 uv.ownBlock) (hgg : uv.ownBlock = some gg ∨ gg = W.heap.size)
    (ho5 : w5.ownsRow B 87 6 (.slice (some ⟨gg, 0, none⟩) m cap) (us.length + 1) (us.flatMap RLetter.cells ++ RLetter.cells L)) (hl : us.length < 40) (hok : RLetter.ok L) : RSent qv W0 w M B n A1 A2 c1 c2 t uv (us ++ [L]) (w5.setCell ⟨M, 3, none⟩ (.slice (some ⟨gg, 0, none⟩) m cap)) := by
  have hlow := h.low
  have hgB := h.MB
  have hBw := h.Bw
  have hne : some M ≠ uv.ownBlock := fun e => by have := (hlow _ e.symm).1; omega
  have hK : Kept (Mine M uv) w (w5.setCell ⟨M, 3, none⟩ (.slice (some ⟨gg, 0, none⟩) m cap)) := (((Kept.refl _ w).below hW).grown hg5 (fun k e => .inl (.inr e))).set M 3 _ (.inl (.inl rfl))
  refine ⟨.slice (some ⟨gg, 0, none⟩) m cap, h.next hK ?_ ?_ ?_ ?_ h.t0 h.t1, hK, fun q e => ?_⟩
  · exact (((h.blk.below hW h.blk.lt).grown hg5 hne).set 3 _).conv rfl
  · exact own_touched (own_snoc RLetter.cells ho5) ((Touched.refl M w5).set 3 _) hgB
  · rw [List.length_append]; simp; omega
  · intro z hz
    rcases List.mem_append.1 hz with h1 | h1
    · exact h.lok z h1
    · simp at h1; subst h1; exact hok
  · have e : gg = q := by simpa [Value.ownBlock] using e
    subst e
    rcases hgg with h1 | h1
    · exact .inl h1
    · right; have := hW.size; omega
theorem r2_has (W0 : World) (M B n : Nat) (A1 A2 : Option Addr) (c1 c2 : Nat) (t : Int) (uv : Value) (us : List RLetter) (i : Int) (w : World) (h : RWorld qv W0 w M B n A1 A2 c1 c2 t uv us) :
    Calls Tryd.prog 55 #[.pointer (some ⟨M, 0, none⟩), .int .i64 i] w fun e w' => e = .returned (.bool (hasN n i)) ∧ Below w.heap.size w w' := by
  have c0 := h.blk.cell 0
  simp at c0
  clear h
  by_cases g1 : 0 ≤ i
  · have hv := Lib.hid (show hasN n i = decide (i < n) by unfold hasN; simp [g1])
    go_enter Tryd.func55, Tryd.ntmps55
    go_wp2_with fail
    go_ret
    exact ⟨by rw [hv.out]; rfl, (by repeat (first | with_reducible exact Below.refl _ _ | (with_reducible refine Below.alloc ?_ (by first | omega | (simp; done) | (simp; omega)) _) | (with_reducible refine Below.setCell ?_ (by first | omega | (simp; done) | (simp; omega)) _) | (with_reducible refine Below.drew ?_) | (with_reducible refine below_drewN ?_ _) | (with_reducible assumption) | (with_reducible refine bel_step (by with_reducible assumption) ?_ (by first | omega | (simp; done) | (simp; omega)))))⟩
  · have hv := Lib.hid (show hasN n i = false by unfold hasN; simp [g1])
    go_enter Tryd.func55, Tryd.ntmps55
    go_wp2_with fail
    go_ret
    exact ⟨by rw [hv.out]; rfl, (by repeat (first | with_reducible exact Below.refl _ _ | (with_reducible refine Below.alloc ?_ (by first | omega | (simp; done) | (simp; omega)) _) | (with_reducible refine Below.setCell ?_ (by first | omega | (simp; done) | (simp; omega)) _) | (with_reducible refine Below.drew ?_) | (with_reducible refine below_drewN ?_ _) | (with_reducible assumption) | (with_reducible refine bel_step (by with_reducible assumption) ?_ (by first | omega | (simp; done) | (simp; omega)))))⟩
theorem mod_down (N : Int) : ∃ Q, Int.tdiv N 1000000 = Q ∧ ((N < Q * 1000000 ∧ Q - 1 = N / 1000000) ∨ (¬ N < Q * 1000000 ∧ Q = N / 1000000)) := by
  have h1 := Int.mul_tdiv_add_tmod N 1000000
  have h2 : N.tmod 1000000 < 1000000 := Int.tmod_lt_of_pos N (by omega)
  have h3 : (-N).tmod 1000000 < 1000000 := Int.tmod_lt_of_pos (-N) (by omega)
  rw [Int.neg_tmod] at h3
  refine ⟨_, rfl, ?_⟩
  generalize N.tdiv 1000000 = q at *
  generalize N.tmod 1000000 = r at *
  omega
set_option maxRecDepth 100000 in
set_option maxHeartbeats 4000000 in
theorem r2_WRead (W0 : World) (M B n : Nat) (A1 A2 : Option Addr) (c1 c2 : Nat) (ss rs : List Int) (t : Int) (uv : Value) (us : List RLetter) (i : Nat) (s r : Int) (w : World) (h : RWorld qv W0 w M B n A1 A2 c1 c2 t uv us)
    (h1 : IsInts W0 A1 n c1 ss) (h2 : IsInts W0 A2 n c2 rs) (hs : ss[i]? = some s) (hr : rs[i]? = some r) (sb : 0 ≤ s ∧ s ≤ 1000000) (rb : -1000 ≤ r ∧ r ≤ 1000) :
    Calls Tryd.prog 18 #[.pointer (some ⟨M, 0, none⟩), .int .i64 i] w fun e w' => e = .returned (.int .i64 (readV s r t)) ∧ Below w.heap.size w w' := by
  have t0 := h.t0
  have t1 := h.t1
  have c0 := h.blk.cell 0
  have cc1 := h.blk.cell 1
  have cc2 := h.blk.cell 2
  simp at c0 cc1 cc2
  have hin : i < n := by rw [← h1.1]; exact (List.getElem?_eq_some_iff.1 hs).1
  obtain ⟨b1, o1, rfl, hb1, hc1⟩ := h1.2.2.2.2 (by omega)
  obtain ⟨b2, o2, rfl, hb2, hc2⟩ := h2.2.2.2.2 (by omega)
  have x0 : w.cell? ⟨b1, o1 + i, none⟩ = some (.int .i64 s) := (h.old.cell (p := ⟨b1, o1 + i, none⟩) hb1).trans (by simpa using hc1 i s hs 0 _ rfl)
  have x1 : w.cell? ⟨b2, o2 + i, none⟩ = some (.int .i64 r) := (h.old.cell (p := ⟨b2, o2 + i, none⟩) hb2).trans (by simpa using hc2 i r hr 0 _ rfl)
  have bd := mul_bd2 t0 t1 rb.1 rb.2
  obtain ⟨N, hN⟩ : ∃ N, t * r = N := ⟨_, rfl⟩
  have hv : readV s r t = s + t + N / 1000000 := by unfold readV; rw [hN]
  obtain ⟨Q, hQ, hD⟩ := mod_down N
  rw [hN] at bd
  have HV := Lib.hid hv
  have q0 : (0 : Int) ≤ (i : Int) := by omega
  have q1 : (i : Int) < (n : Int) := by omega
  have u1 := IntWalk.i64_in N (by omega)
  rw [← hN] at u1
  have hQb : -1000001 ≤ Q ∧ Q ≤ 1000001 := by omega
  have u2 := IntWalk.i64_in Q (by omega)
  have u3 := IntWalk.i64_in (Q * 1000000) (by omega)
  have u4 := IntWalk.i64_in (s + t) (by omega)
  have u5 := IntWalk.i64_in (s + t + Q) (by omega)
  have u6 := IntWalk.i64_in (Q - 1) (by omega)
  have u7 := IntWalk.i64_in (s + t + (Q - 1)) (by omega)
  clear h h1 h2 hs hr hc1 hc2 hv
  rcases hD with ⟨d1, d2⟩ | ⟨d1, d2⟩
  · have HF := Lib.hid (show s + t + (Q - 1) = readV s r t by rw [HV.out, d2])
    clear d2
    go_enter Tryd.func18, Tryd.ntmps18
    go_wp2_with fail
    go_quiet (fail)
    go_wp2_with fail
    go_quiet (fail)
    go_wp2_with fail
    go_ret
    exact ⟨ret_int HF.out, (by repeat (first | with_reducible exact Below.refl _ _ | (with_reducible refine Below.alloc ?_ (by first | omega | (simp; done) | (simp; omega)) _) | (with_reducible refine Below.setCell ?_ (by first | omega | (simp; done) | (simp; omega)) _) | (with_reducible refine Below.drew ?_) | (with_reducible refine below_drewN ?_ _) | (with_reducible assumption) | (with_reducible refine bel_step (by with_reducible assumption) ?_ (by first | omega | (simp; done) | (simp; omega)))))⟩
  · have HF := Lib.hid (show s + t + Q = readV s r t by rw [HV.out, d2])
    clear d2
    go_enter Tryd.func18, Tryd.ntmps18
    go_wp2_with fail
    go_quiet (fail)
    go_wp2_with fail
    go_quiet (fail)
    go_wp2_with fail
    go_ret
    exact ⟨ret_int HF.out, (by repeat (first | with_reducible exact Below.refl _ _ | (with_reducible refine Below.alloc ?_ (by first | omega | (simp; done) | (simp; omega)) _) | (with_reducible refine Below.setCell ?_ (by first | omega | (simp; done) | (simp; omega)) _) | (with_reducible refine Below.drew ?_) | (with_reducible refine below_drewN ?_ _) | (with_reducible assumption) | (with_reducible refine bel_step (by with_reducible assumption) ?_ (by first | omega | (simp; done) | (simp; omega)))))⟩
end Go.Proofs.YtmficdfihogffaaDoor

/- The reference's answer, walked. -/
namespace Go.Proofs.YtmficdfihogffaaDoor
open Go.RowKit
set_option linter.unusedVariables false
set_option linter.unusedSimpArgs false
variable {qv : Value}
set_option maxRecDepth 100000 in
set_option maxHeartbeats 8000000 in
theorem r2_Answer (W0 : World) (M B n : Nat) (A1 A2 : Option Addr) (c1 c2 : Nat) (ss rs : List Int) (t : Int) (uv : Value) (us : List RLetter) (i k : Nat) (s r t1 t2 lt : Int) (w : World) (h : RWorld qv W0 w M B n A1 A2 c1 c2 t uv us)
    (h1 : IsInts W0 A1 n c1 ss) (h2 : IsInts W0 A2 n c2 rs) (n6 : n ≤ 6) (hs : ss[k]? = some s) (hr : rs[k]? = some r) (sb : 0 ≤ s ∧ s ≤ 1000000) (rb : -1000 ≤ r ∧ r ≤ 1000) (hin : i < n) (hl : us.length < 40) (hlt : i64B lt) :
    Calls Tryd.prog 31 #[.pointer (some ⟨M, 0, none⟩), .agg #[.int .i64 i, .int .i64 k, .bool false, .int .i64 t1, .int .i64 t2, .int .i64 lt]] w fun e w' => e = .returned (.int .i64 0) ∧ RSent qv W0 w M B n A1 A2 c1 c2 t uv (us ++ [⟨k, i, true, lt, readV s r t, readV s r t⟩]) w' := by
  obtain ⟨i0, hi, hz0, hz1, hz2⟩ := info_parts infoLt
  have hk : k < n := by rw [← h1.1]; exact (List.getElem?_eq_some_iff.1 hs).1
  have HU := Lib.hid h
  have CH := Lib.hid (fun (j : Nat) (hj : j < n) w' (hb : Below w.heap.size w w') => by have := r2_has W0 M B n A1 A2 c1 c2 t uv us j w' (h.below hb); rw [hasN_nat hj] at this; exact this)
  have CRd := Lib.hid (fun w' (hb : Below w.heap.size w w') => r2_WRead W0 M B n A1 A2 c1 c2 ss rs t uv us k s r w' (h.below hb) h1 h2 hs hr sb rb)
  obtain ⟨A, c, rfl, hAc, hcm⟩ := own_slice h.row
  unfold maxLen at hcm
  have HG := Lib.hid (fun w' (hb : Below w.heap.size w w') => show w'.cell? ⟨M, 3, none⟩ = some (.slice A us.length c) ∧ w'.frozen? ⟨M, 3, none⟩ = false from ⟨by rw [(h.below hb).blk.cell]; rfl, (h.below hb).blk.fz 3⟩)
  have hrd := readV_bd sb.1 sb.2 h.t0 h.t1 rb.1 rb.2
  have hgw := Nat.lt_of_lt_of_le h.MB h.Bw
  have hBw := h.Bw
  have hgB := h.MB
  have hlow := h.low
  obtain ⟨v, hv⟩ : ∃ v, readV s r t = v := ⟨_, rfl⟩
  rw [hv] at CRd hrd ⊢
  have HOk := Lib.hid (show RLetter.ok ⟨k, i, true, lt, v, v⟩ from by unfold i64B at hlt; unfold RLetter.ok i64B; simp only []; omega)
  have g1 : ¬ (40 : Int) ≤ (us.length : Int) := by omega
  clear h h1 h2 hs hr hv hlt sb rb
  go_enter Tryd.func31, Tryd.ntmps31
  go_wp2_with fail
  refine (CH.out i hin _ (by repeat (first | with_reducible exact Below.refl _ _ | (with_reducible refine Below.alloc ?_ (by first | omega | (simp; done) | (simp; omega)) _) | (with_reducible refine Below.setCell ?_ (by first | omega | (simp; done) | (simp; omega)) _) | (with_reducible refine Below.drew ?_) | (with_reducible refine below_drewN ?_ _) | (with_reducible assumption) | (with_reducible refine bel_step (by with_reducible assumption) ?_ (by first | omega | (simp; done) | (simp; omega)))))).mono ?_
  rintro e w1 ⟨rfl, hb1⟩
  have hz1 := hb1.size
  (try simp at hz1)
  have agx : w.heap.size ≤ w.heap.size := by first | omega | (simp; done) | (simp; omega)
  have bx1 : Blk w1 (w.heap.size) 87 #[.int .i64 i, .int .i64 k, .bool false, .int .i64 t1, .int .i64 t2, .int .i64 lt] := (by refine BlkG.start ?_; (repeat (first | ((with_reducible apply BlkG.done); (with_reducible assumption); exact rfl) | (with_reducible exact BlkG.newAt (by first | (with_reducible rfl) | omega | (simp; done) | (simp; omega)) rfl) | (with_reducible refine BlkG.drew ?_) | (with_reducible refine BlkG.drewN ?_) | (with_reducible refine BlkG.set ?_) | (with_reducible refine BlkG.far (by first | omega | (simp; done) | (simp; omega)) ?_) | (with_reducible refine BlkG.alloc ?_) | (with_reducible refine BlkG.bel (by with_reducible assumption) (by first | omega | (simp; done) | (simp; omega)) ?_))))
  have cx1_0 : w1.cell? ⟨w.heap.size, 0, none⟩ = some (.int .i64 i) := bx1.cell 0
  have fx1_0 : w1.frozen? ⟨w.heap.size, 0, none⟩ = false := bx1.fz 0
  have cx1_1 : w1.cell? ⟨w.heap.size, 1, none⟩ = some (.int .i64 k) := bx1.cell 1
  have fx1_1 : w1.frozen? ⟨w.heap.size, 1, none⟩ = false := bx1.fz 1
  have cx1_2 : w1.cell? ⟨w.heap.size, 2, none⟩ = some (.bool false) := bx1.cell 2
  have fx1_2 : w1.frozen? ⟨w.heap.size, 2, none⟩ = false := bx1.fz 2
  have cx1_3 : w1.cell? ⟨w.heap.size, 3, none⟩ = some (.int .i64 t1) := bx1.cell 3
  have fx1_3 : w1.frozen? ⟨w.heap.size, 3, none⟩ = false := bx1.fz 3
  have cx1_4 : w1.cell? ⟨w.heap.size, 4, none⟩ = some (.int .i64 t2) := bx1.cell 4
  have fx1_4 : w1.frozen? ⟨w.heap.size, 4, none⟩ = false := bx1.fz 4
  have cx1_5 : w1.cell? ⟨w.heap.size, 5, none⟩ = some (.int .i64 lt) := bx1.cell 5
  have fx1_5 : w1.frozen? ⟨w.heap.size, 5, none⟩ = false := bx1.fz 5
  have lx1 : w.heap.size < w1.heap.size := bx1.lt
  have HB1 : Below w.heap.size w w1 := (by repeat (first | with_reducible exact Below.refl _ _ | (with_reducible refine Below.alloc ?_ (by first | omega | (simp; done) | (simp; omega)) _) | (with_reducible refine Below.setCell ?_ (by first | omega | (simp; done) | (simp; omega)) _) | (with_reducible refine Below.drew ?_) | (with_reducible refine below_drewN ?_ _) | (with_reducible assumption) | (with_reducible refine bel_step (by with_reducible assumption) ?_ (by first | omega | (simp; done) | (simp; omega)))))
  have HZ1 := HB1.size
  clear hb1 hz1
  go_wp2_with fail
  refine (CH.out k hk _ (by repeat (first | with_reducible exact Below.refl _ _ | (with_reducible refine Below.alloc ?_ (by first | omega | (simp; done) | (simp; omega)) _) | (with_reducible refine Below.setCell ?_ (by first | omega | (simp; done) | (simp; omega)) _) | (with_reducible refine Below.drew ?_) | (with_reducible refine below_drewN ?_ _) | (with_reducible assumption) | (with_reducible refine bel_step (by with_reducible assumption) ?_ (by first | omega | (simp; done) | (simp; omega)))))).mono ?_
  rintro e w2 ⟨rfl, hb2⟩
  have hz2 := hb2.size
  (try simp at hz2)
  have bx2 : Blk w2 (w.heap.size) 87 #[.int .i64 i, .int .i64 k, .bool false, .int .i64 t1, .int .i64 t2, .int .i64 lt] := (by refine BlkG.start ?_; (repeat (first | ((with_reducible apply BlkG.done); (with_reducible assumption); exact rfl) | (with_reducible exact BlkG.newAt (by first | (with_reducible rfl) | omega | (simp; done) | (simp; omega)) rfl) | (with_reducible refine BlkG.drew ?_) | (with_reducible refine BlkG.drewN ?_) | (with_reducible refine BlkG.set ?_) | (with_reducible refine BlkG.far (by first | omega | (simp; done) | (simp; omega)) ?_) | (with_reducible refine BlkG.alloc ?_) | (with_reducible refine BlkG.bel (by with_reducible assumption) (by first | omega | (simp; done) | (simp; omega)) ?_))))
  have cx2_0 : w2.cell? ⟨w.heap.size, 0, none⟩ = some (.int .i64 i) := bx2.cell 0
  have fx2_0 : w2.frozen? ⟨w.heap.size, 0, none⟩ = false := bx2.fz 0
  have cx2_1 : w2.cell? ⟨w.heap.size, 1, none⟩ = some (.int .i64 k) := bx2.cell 1
  have fx2_1 : w2.frozen? ⟨w.heap.size, 1, none⟩ = false := bx2.fz 1
  have cx2_2 : w2.cell? ⟨w.heap.size, 2, none⟩ = some (.bool false) := bx2.cell 2
  have fx2_2 : w2.frozen? ⟨w.heap.size, 2, none⟩ = false := bx2.fz 2
  have cx2_3 : w2.cell? ⟨w.heap.size, 3, none⟩ = some (.int .i64 t1) := bx2.cell 3
  have fx2_3 : w2.frozen? ⟨w.heap.size, 3, none⟩ = false := bx2.fz 3
  have cx2_4 : w2.cell? ⟨w.heap.size, 4, none⟩ = some (.int .i64 t2) := bx2.cell 4
  have fx2_4 : w2.frozen? ⟨w.heap.size, 4, none⟩ = false := bx2.fz 4
  have cx2_5 : w2.cell? ⟨w.heap.size, 5, none⟩ = some (.int .i64 lt) := bx2.cell 5
  have fx2_5 : w2.frozen? ⟨w.heap.size, 5, none⟩ = false := bx2.fz 5
  have lx2 : w.heap.size < w2.heap.size := bx2.lt
  have HB2 : Below w.heap.size w w2 := (by repeat (first | with_reducible exact Below.refl _ _ | (with_reducible refine Below.alloc ?_ (by first | omega | (simp; done) | (simp; omega)) _) | (with_reducible refine Below.setCell ?_ (by first | omega | (simp; done) | (simp; omega)) _) | (with_reducible refine Below.drew ?_) | (with_reducible refine below_drewN ?_ _) | (with_reducible assumption) | (with_reducible refine bel_step (by with_reducible assumption) ?_ (by first | omega | (simp; done) | (simp; omega)))))
  have HZ2 := HB2.size
  clear hb2 hz2 HB1 HZ1 bx1 lx1 cx1_0 fx1_0 cx1_1 fx1_1 cx1_2 fx1_2 cx1_3 fx1_3 cx1_4 fx1_4 cx1_5 fx1_5 
  have y9 := (HG.out w2 HB2).1
  go_wp2_with fail
  refine (CRd.out _ (by repeat (first | with_reducible exact Below.refl _ _ | (with_reducible refine Below.alloc ?_ (by first | omega | (simp; done) | (simp; omega)) _) | (with_reducible refine Below.setCell ?_ (by first | omega | (simp; done) | (simp; omega)) _) | (with_reducible refine Below.drew ?_) | (with_reducible refine below_drewN ?_ _) | (with_reducible assumption) | (with_reducible refine bel_step (by with_reducible assumption) ?_ (by first | omega | (simp; done) | (simp; omega)))))).mono ?_
  rintro e w3 ⟨rfl, hb3⟩
  have hz3 := hb3.size
  (try simp at hz3)
  have bx3 : Blk w3 (w.heap.size) 87 #[.int .i64 i, .int .i64 k, .bool false, .int .i64 t1, .int .i64 t2, .int .i64 lt] := (by refine BlkG.start ?_; (repeat (first | ((with_reducible apply BlkG.done); (with_reducible assumption); exact rfl) | (with_reducible exact BlkG.newAt (by first | (with_reducible rfl) | omega | (simp; done) | (simp; omega)) rfl) | (with_reducible refine BlkG.drew ?_) | (with_reducible refine BlkG.drewN ?_) | (with_reducible refine BlkG.set ?_) | (with_reducible refine BlkG.far (by first | omega | (simp; done) | (simp; omega)) ?_) | (with_reducible refine BlkG.alloc ?_) | (with_reducible refine BlkG.bel (by with_reducible assumption) (by first | omega | (simp; done) | (simp; omega)) ?_))))
  have cx3_0 : w3.cell? ⟨w.heap.size, 0, none⟩ = some (.int .i64 i) := bx3.cell 0
  have fx3_0 : w3.frozen? ⟨w.heap.size, 0, none⟩ = false := bx3.fz 0
  have cx3_1 : w3.cell? ⟨w.heap.size, 1, none⟩ = some (.int .i64 k) := bx3.cell 1
  have fx3_1 : w3.frozen? ⟨w.heap.size, 1, none⟩ = false := bx3.fz 1
  have cx3_2 : w3.cell? ⟨w.heap.size, 2, none⟩ = some (.bool false) := bx3.cell 2
  have fx3_2 : w3.frozen? ⟨w.heap.size, 2, none⟩ = false := bx3.fz 2
  have cx3_3 : w3.cell? ⟨w.heap.size, 3, none⟩ = some (.int .i64 t1) := bx3.cell 3
  have fx3_3 : w3.frozen? ⟨w.heap.size, 3, none⟩ = false := bx3.fz 3
  have cx3_4 : w3.cell? ⟨w.heap.size, 4, none⟩ = some (.int .i64 t2) := bx3.cell 4
  have fx3_4 : w3.frozen? ⟨w.heap.size, 4, none⟩ = false := bx3.fz 4
  have cx3_5 : w3.cell? ⟨w.heap.size, 5, none⟩ = some (.int .i64 lt) := bx3.cell 5
  have fx3_5 : w3.frozen? ⟨w.heap.size, 5, none⟩ = false := bx3.fz 5
  have lx3 : w.heap.size < w3.heap.size := bx3.lt
  have HB3 : Below w.heap.size w w3 := (by repeat (first | with_reducible exact Below.refl _ _ | (with_reducible refine Below.alloc ?_ (by first | omega | (simp; done) | (simp; omega)) _) | (with_reducible refine Below.setCell ?_ (by first | omega | (simp; done) | (simp; omega)) _) | (with_reducible refine Below.drew ?_) | (with_reducible refine below_drewN ?_ _) | (with_reducible assumption) | (with_reducible refine bel_step (by with_reducible assumption) ?_ (by first | omega | (simp; done) | (simp; omega)))))
  have HZ3 := HB3.size
  clear hb3 hz3 HB2 HZ2 bx2 lx2 cx2_0 fx2_0 cx2_1 fx2_1 cx2_2 fx2_2 cx2_3 fx2_3 cx2_4 fx2_4 cx2_5 fx2_5 
  clear y9 CRd CH
  obtain ⟨u1, u2⟩ := HG.out w3 HB3
  have hgl : M < w3.heap.size := by omega
  have lbox := lx3
  have cb0 := cx3_0
  have cb1 := cx3_1
  have cb5 := cx3_5
  clear cx3_0 cx3_1 cx3_2 cx3_3 cx3_4 cx3_5 fx3_0 fx3_1 fx3_2 fx3_3 fx3_4 fx3_5 bx3
  go_wp2_with fail
  have KP := Lib.hid (fun w' (hb : Below w3.heap.size w3 w') => show w'.cell? ⟨w.heap.size, 0, none⟩ = some (.int .i64 i) ∧ w'.cell? ⟨w.heap.size, 1, none⟩ = some (.int .i64 k) ∧ w'.cell? ⟨w.heap.size, 5, none⟩ = some (.int .i64 lt) from ⟨(hb.cell (p := ⟨w.heap.size, 0, none⟩) lbox).trans cb0, (hb.cell (p := ⟨w.heap.size, 1, none⟩) lbox).trans cb1, (hb.cell (p := ⟨w.heap.size, 5, none⟩) lbox).trans cb5⟩)
  have KG := Lib.hid (fun W W' (hb : Below w3.heap.size w3 W) (hg : W.grownBy W' (Value.slice A us.length c).ownBlock) => show W'.cell? ⟨w.heap.size, 0, none⟩ = some (.int .i64 i) ∧ W'.cell? ⟨w.heap.size, 1, none⟩ = some (.int .i64 k) ∧ W'.cell? ⟨w.heap.size, 5, none⟩ = some (.int .i64 lt) from by
    have hne : some (w.heap.size) ≠ (Value.slice A us.length c).ownBlock := fun e => by have := (hlow _ e.symm).2; omega
    obtain ⟨y0, y1, y2⟩ := KP.out W hb
    exact ⟨hg.cell y0 hne, hg.cell y1 hne, hg.cell y2 hne⟩)
  have KN := Lib.hid (fun W W' (hb : Below w3.heap.size w3 W) (hg : W.grownBy W' (Value.slice A us.length c).ownBlock) => show W'.cell? ⟨M, 3, none⟩ = some (.slice A us.length c) ∧ W'.frozen? ⟨M, 3, none⟩ = false from by
    have hne : some M ≠ (Value.slice A us.length c).ownBlock := fun e => by have := (hlow _ e.symm).1; omega
    obtain ⟨k1, k2⟩ := HG.out W (HB3.trans (hb.mono HZ3))
    exact ⟨hg.cell k1 hne, (World.frozen?_of_block (hg.block M (Nat.lt_of_lt_of_le hgl hb.size) hne)).trans k2⟩)
  have KS := Lib.hid (fun (W : World) (v : Value) (hc : W.cell? ⟨w.heap.size, 0, none⟩ = some (.int .i64 i) ∧ W.cell? ⟨w.heap.size, 1, none⟩ = some (.int .i64 k) ∧ W.cell? ⟨w.heap.size, 5, none⟩ = some (.int .i64 lt)) => show (W.setCell ⟨M, 3, none⟩ v).cell? ⟨w.heap.size, 0, none⟩ = some (.int .i64 i) ∧ (W.setCell ⟨M, 3, none⟩ v).cell? ⟨w.heap.size, 1, none⟩ = some (.int .i64 k) ∧ (W.setCell ⟨M, 3, none⟩ v).cell? ⟨w.heap.size, 5, none⟩ = some (.int .i64 lt) from ⟨(World.cell?_setCell_other W _ _ v (fun e => by have := congrArg Addr.block e; simp at this; omega)).trans hc.1, (World.cell?_setCell_other W _ _ v (fun e => by have := congrArg Addr.block e; simp at this; omega)).trans hc.2.1, (World.cell?_setCell_other W _ _ v (fun e => by have := congrArg Addr.block e; simp at this; omega)).trans hc.2.2⟩)
  have HRow := Lib.hid (own_below HU.out.row HB3)
  have HBh := Lib.hid HB3
  have B0 := Lib.hid (show B ≤ w3.heap.size from Nat.le_trans hBw HB3.size)
  have B2 := Lib.hid (show us.length + 1 ≤ maxLen by unfold maxLen; omega)
  have B3 := Lib.hid (show (us.length + 1) * 48 ≤ 140737488355328 by omega)
  have hB4 : Below w3.heap.size w3 (w3.alloc (.cells (RLetter.cells ⟨k, i, true, lt, v, v⟩).toArray 87)).drew := ((Below.refl _ _).alloc (Nat.le_refl _) _).drew
  clear hlow
  refine wp_region_held_drew (S := fun w9 => w9.cell? ⟨w.heap.size, 0, none⟩ = some (.int .i64 i) ∧ w9.cell? ⟨w.heap.size, 1, none⟩ = some (.int .i64 k) ∧ w9.cell? ⟨w.heap.size, 5, none⟩ = some (.int .i64 lt)) (by kernel_rfl) (⟨cb0, cb1, cb5⟩) (fun hHeld => ?_)
  refine take_d (i := 0) (v := (.pointer (some ⟨M, 0, none⟩))) (d := some 34) rfl (by kernel_rfl) (by kernel_rfl) (by kernel_rfl) (by kernel_rfl) (fun _ _ _ h => h) (Or.inl ⟨by kernel_rfl, fun w9 hw9 => by (go_simp)⟩) hHeld ?_
  try simp only [Act.put, List.setIfInBounds_toArray, List.set_cons_zero, List.set_cons_succ]
  refine take_d (i := 1) (v := (.pointer (some ⟨M, 0, none⟩))) (d := some 35) rfl (by kernel_rfl) (by kernel_rfl) (by kernel_rfl) (by kernel_rfl) (fun _ _ _ h => h) (Or.inl ⟨by kernel_rfl, fun w9 hw9 => by (go_simp)⟩) hHeld ?_
  try simp only [Act.put, List.setIfInBounds_toArray, List.set_cons_zero, List.set_cons_succ]
  refine take_d (i := 2) (v := (.pointer (some ⟨M, 0, none⟩))) (d := some 36) rfl (by kernel_rfl) (by kernel_rfl) (by kernel_rfl) (by kernel_rfl) (fun _ _ _ h => h) (Or.inl ⟨by kernel_rfl, fun w9 hw9 => by (go_simp)⟩) hHeld ?_
  try simp only [Act.put, List.setIfInBounds_toArray, List.set_cons_zero, List.set_cons_succ]
  refine take_d (i := 3) (v := (.pointer (some ⟨M, 3, none⟩))) (d := some 37) rfl (by kernel_rfl) (by kernel_rfl) (by kernel_rfl) (by kernel_rfl) (fun _ _ _ h => h) (Or.inl ⟨by kernel_rfl, fun w9 hw9 => by (go_simp)⟩) hHeld ?_
  try simp only [Act.put, List.setIfInBounds_toArray, List.set_cons_zero, List.set_cons_succ]
  refine take_d (i := 5) (v := (.pointer (some ⟨w.heap.size, 1, none⟩))) (d := some 39) rfl (by kernel_rfl) (by kernel_rfl) (by kernel_rfl) (by kernel_rfl) (fun _ _ _ h => h) (Or.inl ⟨by kernel_rfl, fun w9 hw9 => by (go_simp)⟩) hHeld ?_
  try simp only [Act.put, List.setIfInBounds_toArray, List.set_cons_zero, List.set_cons_succ]
  refine take_d (i := 6) (v := (.int .i64 k)) (d := some 40) rfl (by kernel_rfl) (by kernel_rfl) (by kernel_rfl) (by kernel_rfl) (fun _ _ _ h => h) (Or.inl ⟨by kernel_rfl, fun w9 hw9 => by (obtain ⟨y0, y1, y2⟩ := hw9; go_simp)⟩) hHeld ?_
  try simp only [Act.put, List.setIfInBounds_toArray, List.set_cons_zero, List.set_cons_succ]
  refine take_d (i := 7) (v := (.pointer (some ⟨w.heap.size, 0, none⟩))) (d := some 41) rfl (by kernel_rfl) (by kernel_rfl) (by kernel_rfl) (by kernel_rfl) (fun _ _ _ h => h) (Or.inl ⟨by kernel_rfl, fun w9 hw9 => by (go_simp)⟩) hHeld ?_
  try simp only [Act.put, List.setIfInBounds_toArray, List.set_cons_zero, List.set_cons_succ]
  refine take_d (i := 8) (v := (.int .i64 i)) (d := some 42) rfl (by kernel_rfl) (by kernel_rfl) (by kernel_rfl) (by kernel_rfl) (fun _ _ _ h => h) (Or.inl ⟨by kernel_rfl, fun w9 hw9 => by (obtain ⟨y0, y1, y2⟩ := hw9; go_simp)⟩) hHeld ?_
  try simp only [Act.put, List.setIfInBounds_toArray, List.set_cons_zero, List.set_cons_succ]
  refine take_d (i := 9) (v := (.pointer (some ⟨w.heap.size, 5, none⟩))) (d := some 43) rfl (by kernel_rfl) (by kernel_rfl) (by kernel_rfl) (by kernel_rfl) (fun _ _ _ h => h) (Or.inl ⟨by kernel_rfl, fun w9 hw9 => by (go_simp)⟩) hHeld ?_
  try simp only [Act.put, List.setIfInBounds_toArray, List.set_cons_zero, List.set_cons_succ]
  refine take_d (i := 10) (v := (.int .i64 lt)) (d := some 44) rfl (by kernel_rfl) (by kernel_rfl) (by kernel_rfl) (by kernel_rfl) (fun _ _ _ h => h) (Or.inl ⟨by kernel_rfl, fun w9 hw9 => by (obtain ⟨y0, y1, y2⟩ := hw9; go_simp)⟩) hHeld ?_
  try simp only [Act.put, List.setIfInBounds_toArray, List.set_cons_zero, List.set_cons_succ]
  refine take_d (i := 11) (v := (.int .i64 v)) (d := some 45) rfl (by kernel_rfl) (by kernel_rfl) (by kernel_rfl) (by kernel_rfl) (fun _ _ _ h => h) (Or.inl ⟨by kernel_rfl, fun w9 hw9 => by (go_simp)⟩) hHeld ?_
  try simp only [Act.put, List.setIfInBounds_toArray, List.set_cons_zero, List.set_cons_succ]
  refine take_d (i := 12) (v := (.int .i64 v)) (d := some 46) rfl (by kernel_rfl) (by kernel_rfl) (by kernel_rfl) (by kernel_rfl) (fun _ _ _ h => h) (Or.inl ⟨by kernel_rfl, fun w9 hw9 => by (go_simp)⟩) hHeld ?_
  try simp only [Act.put, List.setIfInBounds_toArray, List.set_cons_zero, List.set_cons_succ]
  refine take_d (i := 13) (v := (.agg #[.int .i64 k, .int .i64 i, .bool true, .int .i64 lt, .int .i64 v, .int .i64 v])) (d := some 47) rfl (by kernel_rfl) (by kernel_rfl) (by kernel_rfl) (by kernel_rfl) (fun _ _ _ h => h) (Or.inl ⟨by kernel_rfl, fun w9 hw9 => by (go_simp)⟩) hHeld ?_
  try simp only [Act.put, List.setIfInBounds_toArray, List.set_cons_zero, List.set_cons_succ]
  try simp only [Act.put, List.setIfInBounds_toArray, List.set_cons_zero, List.set_cons_succ]
  refine wpAnyH_ready (rs := [4, 14]) (by kernel_rfl) (by simp) ?_
  refine AllReadyH.cons rfl (fun K hK => ?_) (AllReadyH.cons rfl (fun K hK => ?_) AllReadyH.nil)
  · go_simp
    refine hK.out _ _ (hHeld) (fun hHeld2 => ?_)
    clear hK K hHeld
    have hHeld := hHeld2
    clear hHeld2
    try simp only [Act.put, List.setIfInBounds_toArray, List.set_cons_zero, List.set_cons_succ]
    try simp only [Act.put, List.setIfInBounds_toArray, List.set_cons_zero, List.set_cons_succ]
    refine wpAnyH_ready (rs := [14]) (by kernel_rfl) (by simp) ?_
    refine AllReadyH.cons rfl (fun K hK => ?_) AllReadyH.nil
    go_simp
    refine hK.out _ _ (KP.out _ hB4) (fun hHeld2 => ?_)
    clear hK K hHeld
    have hHeld := hHeld2
    clear hHeld2
    try simp only [Act.put, List.setIfInBounds_toArray, List.set_cons_zero, List.set_cons_succ]
    try simp only [Act.put, List.setIfInBounds_toArray, List.set_cons_zero, List.set_cons_succ]
    refine wpAnyH_ready (rs := [15]) (by kernel_rfl) (by simp) ?_
    refine AllReadyH.cons rfl (fun K hK => ?_) AllReadyH.nil
    refine step_append_lies _ rfl _ _ 53 rfl B 87 i0 (.agg #[.int .i64 0, .int .i64 0, .bool false, .int .i64 0, .int .i64 0, .int .i64 0]) 6 48 Tryd.underlying53 hi hz0 hz1 hz2 rfl (by decide) (.slice A us.length c) us.length (us.flatMap RLetter.cells) (by simp [Act.eval, Act.put]) (HRow.out.alloc _) ⟨w3.heap.size, 0, none⟩ 1 1 (RLetter.cells ⟨k, i, true, lt, v, v⟩) (by simp [Act.eval, Act.put]) rfl (by exact cell_newAt w3 (RLetter.cells ⟨k, i, true, lt, v, v⟩) _ _ rfl) (letter_one _) (by decide) B2.out B3.out (by have := B0.out; simp; omega) _ rfl ?_
    intro gg cap w5 ho5 hg5 hgg hlt5
    refine hK.out _ _ (KG.out _ _ hB4 hg5) (fun hHeld2 => ?_)
    clear hK K hHeld
    have hHeld := hHeld2
    clear hHeld2
    change wpAnyH _ _ _ _ _ _ _ (Act.put _ (some 49) _) _
    try simp only [Act.put, List.setIfInBounds_toArray, List.set_cons_zero, List.set_cons_succ]
    have hz5 := hg5.size
    have hc5 := KN.out _ _ hB4 hg5
    obtain ⟨u3, u4⟩ := hc5
    refine take_d (i := 16) (v := (.pointer (some ⟨M, 0, none⟩))) (d := some 50) rfl (by kernel_rfl) (by kernel_rfl) (by kernel_rfl) (by kernel_rfl) (fun _ _ _ h => h) (Or.inl ⟨by kernel_rfl, fun w9 hw9 => by (go_simp)⟩) hHeld ?_
    try simp only [Act.put, List.setIfInBounds_toArray, List.set_cons_zero, List.set_cons_succ]
    refine take_d (i := 17) (v := (.pointer (some ⟨M, 3, none⟩))) (d := some 51) rfl (by kernel_rfl) (by kernel_rfl) (by kernel_rfl) (by kernel_rfl) (fun _ _ _ h => h) (Or.inl ⟨by kernel_rfl, fun w9 hw9 => by (go_simp)⟩) hHeld ?_
    try simp only [Act.put, List.setIfInBounds_toArray, List.set_cons_zero, List.set_cons_succ]
    try simp only [Act.put, List.setIfInBounds_toArray, List.set_cons_zero, List.set_cons_succ]
    refine wpAnyH_ready (rs := [18]) (by kernel_rfl) (by simp) ?_
    refine AllReadyH.cons rfl (fun K hK => ?_) AllReadyH.nil
    go_simp
    refine hK.out _ _ (KS.out _ _ hHeld) (fun hHeld2 => ?_)
    clear hK K hHeld
    have hHeld := hHeld2
    clear hHeld2
    try simp only [Act.put, List.setIfInBounds_toArray, List.set_cons_zero, List.set_cons_succ]
    refine wpAnyH_done (by kernel_rfl) ?_ _
    try simp only [Act.put, List.setIfInBounds_toArray, List.set_cons_zero, List.set_cons_succ]
    go_wp2_with fail
    go_ret
    exact ⟨rfl, rsent_done HU.out (HBh.out.trans (hB4.mono HZ3)) hg5 hgg ho5 hl HOk.out⟩
  · go_simp
    refine hK.out _ _ (KP.out _ hB4) (fun hHeld2 => ?_)
    clear hK K hHeld
    have hHeld := hHeld2
    clear hHeld2
    try simp only [Act.put, List.setIfInBounds_toArray, List.set_cons_zero, List.set_cons_succ]
    try simp only [Act.put, List.setIfInBounds_toArray, List.set_cons_zero, List.set_cons_succ]
    refine wpAnyH_ready (rs := [4]) (by kernel_rfl) (by simp) ?_
    refine AllReadyH.cons rfl (fun K hK => ?_) AllReadyH.nil
    go_simp
    refine hK.out _ _ (hHeld) (fun hHeld2 => ?_)
    clear hK K hHeld
    have hHeld := hHeld2
    clear hHeld2
    try simp only [Act.put, List.setIfInBounds_toArray, List.set_cons_zero, List.set_cons_succ]
    try simp only [Act.put, List.setIfInBounds_toArray, List.set_cons_zero, List.set_cons_succ]
    refine wpAnyH_ready (rs := [15]) (by kernel_rfl) (by simp) ?_
    refine AllReadyH.cons rfl (fun K hK => ?_) AllReadyH.nil
    refine step_append_lies _ rfl _ _ 53 rfl B 87 i0 (.agg #[.int .i64 0, .int .i64 0, .bool false, .int .i64 0, .int .i64 0, .int .i64 0]) 6 48 Tryd.underlying53 hi hz0 hz1 hz2 rfl (by decide) (.slice A us.length c) us.length (us.flatMap RLetter.cells) (by simp [Act.eval, Act.put]) (HRow.out.alloc _) ⟨w3.heap.size, 0, none⟩ 1 1 (RLetter.cells ⟨k, i, true, lt, v, v⟩) (by simp [Act.eval, Act.put]) rfl (by exact cell_newAt w3 (RLetter.cells ⟨k, i, true, lt, v, v⟩) _ _ rfl) (letter_one _) (by decide) B2.out B3.out (by have := B0.out; simp; omega) _ rfl ?_
    intro gg cap w5 ho5 hg5 hgg hlt5
    refine hK.out _ _ (KG.out _ _ hB4 hg5) (fun hHeld2 => ?_)
    clear hK K hHeld
    have hHeld := hHeld2
    clear hHeld2
    change wpAnyH _ _ _ _ _ _ _ (Act.put _ (some 49) _) _
    try simp only [Act.put, List.setIfInBounds_toArray, List.set_cons_zero, List.set_cons_succ]
    have hz5 := hg5.size
    have hc5 := KN.out _ _ hB4 hg5
    obtain ⟨u3, u4⟩ := hc5
    refine take_d (i := 16) (v := (.pointer (some ⟨M, 0, none⟩))) (d := some 50) rfl (by kernel_rfl) (by kernel_rfl) (by kernel_rfl) (by kernel_rfl) (fun _ _ _ h => h) (Or.inl ⟨by kernel_rfl, fun w9 hw9 => by (go_simp)⟩) hHeld ?_
    try simp only [Act.put, List.setIfInBounds_toArray, List.set_cons_zero, List.set_cons_succ]
    refine take_d (i := 17) (v := (.pointer (some ⟨M, 3, none⟩))) (d := some 51) rfl (by kernel_rfl) (by kernel_rfl) (by kernel_rfl) (by kernel_rfl) (fun _ _ _ h => h) (Or.inl ⟨by kernel_rfl, fun w9 hw9 => by (go_simp)⟩) hHeld ?_
    try simp only [Act.put, List.setIfInBounds_toArray, List.set_cons_zero, List.set_cons_succ]
    try simp only [Act.put, List.setIfInBounds_toArray, List.set_cons_zero, List.set_cons_succ]
    refine wpAnyH_ready (rs := [18]) (by kernel_rfl) (by simp) ?_
    refine AllReadyH.cons rfl (fun K hK => ?_) AllReadyH.nil
    go_simp
    refine hK.out _ _ (KS.out _ _ hHeld) (fun hHeld2 => ?_)
    clear hK K hHeld
    have hHeld := hHeld2
    clear hHeld2
    try simp only [Act.put, List.setIfInBounds_toArray, List.set_cons_zero, List.set_cons_succ]
    refine wpAnyH_done (by kernel_rfl) ?_ _
    try simp only [Act.put, List.setIfInBounds_toArray, List.set_cons_zero, List.set_cons_succ]
    go_wp2_with fail
    go_ret
    exact ⟨rfl, rsent_done HU.out (HBh.out.trans (hB4.mono HZ3)) hg5 hgg ho5 hl HOk.out⟩
set_option maxRecDepth 100000 in
set_option maxHeartbeats 4000000 in
theorem r2_Answer_yes (M : Nat) (a b t1 t2 lt : Int) (w : World) :
    Calls Tryd.prog 31 #[.pointer (some ⟨M, 0, none⟩), .agg #[.int .i64 a, .int .i64 b, .bool true, .int .i64 t1, .int .i64 t2, .int .i64 lt]] w fun e w' => e = .returned (.int .i64 3) ∧ Below w.heap.size w w' := by
  go_enter Tryd.func31, Tryd.ntmps31
  go_wp2_with fail
  go_ret
  exact ⟨rfl, (by repeat (first | with_reducible exact Below.refl _ _ | (with_reducible refine Below.alloc ?_ (by first | omega | (simp; done) | (simp; omega)) _) | (with_reducible refine Below.setCell ?_ (by first | omega | (simp; done) | (simp; omega)) _) | (with_reducible refine Below.drew ?_) | (with_reducible refine below_drewN ?_ _) | (with_reducible assumption) | (with_reducible refine bel_step (by with_reducible assumption) ?_ (by first | omega | (simp; done) | (simp; omega)))))⟩
set_option maxRecDepth 100000 in
set_option maxHeartbeats 4000000 in
theorem r2_Answer_no (W0 : World) (M B n : Nat) (A1 A2 : Option Addr) (c1 c2 : Nat) (t : Int) (uv : Value) (us : List RLetter) (a b t1 t2 lt : Int) (w : World) (h : RWorld qv W0 w M B n A1 A2 c1 c2 t uv us) (h0 : hasN n a = false ∨ hasN n b = false) :
    Calls Tryd.prog 31 #[.pointer (some ⟨M, 0, none⟩), .agg #[.int .i64 a, .int .i64 b, .bool false, .int .i64 t1, .int .i64 t2, .int .i64 lt]] w fun e w' => e = .returned (.int .i64 1) ∧ Below w.heap.size w w' := by
  have CH := Lib.hid (fun (j : Int) (q : Bool) (hq : hasN n j = q) w' (hb : Below w.heap.size w w') => by have := r2_has W0 M B n A1 A2 c1 c2 t uv us j w' (h.below hb); rw [hq] at this; exact this)
  clear h
  obtain ⟨p, q, d1, d2, hd⟩ : ∃ p q, hasN n a = p ∧ hasN n b = q ∧ (p = false ∨ (p = true ∧ q = false)) := ⟨_, _, rfl, rfl, by cases h1 : hasN n a; exact .inl rfl; rw [h1] at h0; rcases h0 with h | h; cases h; exact .inr ⟨rfl, h⟩⟩
  have C1 := Lib.hid (CH.out a p d1)
  have C2 := Lib.hid (CH.out b q d2)
  clear h0 d1 d2 CH
  rcases hd with rfl | ⟨rfl, rfl⟩
  all_goals
    as_aux_lemma =>
      go_enter Tryd.func31, Tryd.ntmps31
      go_wp2_with fail
      refine (C1.out _ (by repeat (first | with_reducible exact Below.refl _ _ | (with_reducible refine Below.alloc ?_ (by first | omega | (simp; done) | (simp; omega)) _) | (with_reducible refine Below.setCell ?_ (by first | omega | (simp; done) | (simp; omega)) _) | (with_reducible refine Below.drew ?_) | (with_reducible refine below_drewN ?_ _) | (with_reducible assumption) | (with_reducible refine bel_step (by with_reducible assumption) ?_ (by first | omega | (simp; done) | (simp; omega)))))).mono ?_
      rintro e w1 ⟨rfl, hb1⟩
      have hz1 := hb1.size
      (try simp at hz1)
      have agx : w.heap.size ≤ w.heap.size := by first | omega | (simp; done) | (simp; omega)
      have bx1 : Blk w1 (w.heap.size) 87 #[.int .i64 a, .int .i64 b, .bool false, .int .i64 t1, .int .i64 t2, .int .i64 lt] := (by refine BlkG.start ?_; (repeat (first | ((with_reducible apply BlkG.done); (with_reducible assumption); exact rfl) | (with_reducible exact BlkG.newAt (by first | (with_reducible rfl) | omega | (simp; done) | (simp; omega)) rfl) | (with_reducible refine BlkG.drew ?_) | (with_reducible refine BlkG.drewN ?_) | (with_reducible refine BlkG.set ?_) | (with_reducible refine BlkG.far (by first | omega | (simp; done) | (simp; omega)) ?_) | (with_reducible refine BlkG.alloc ?_) | (with_reducible refine BlkG.bel (by with_reducible assumption) (by first | omega | (simp; done) | (simp; omega)) ?_))))
      have cx1_0 : w1.cell? ⟨w.heap.size, 0, none⟩ = some (.int .i64 a) := bx1.cell 0
      have fx1_0 : w1.frozen? ⟨w.heap.size, 0, none⟩ = false := bx1.fz 0
      have cx1_1 : w1.cell? ⟨w.heap.size, 1, none⟩ = some (.int .i64 b) := bx1.cell 1
      have fx1_1 : w1.frozen? ⟨w.heap.size, 1, none⟩ = false := bx1.fz 1
      have cx1_2 : w1.cell? ⟨w.heap.size, 2, none⟩ = some (.bool false) := bx1.cell 2
      have fx1_2 : w1.frozen? ⟨w.heap.size, 2, none⟩ = false := bx1.fz 2
      have cx1_3 : w1.cell? ⟨w.heap.size, 3, none⟩ = some (.int .i64 t1) := bx1.cell 3
      have fx1_3 : w1.frozen? ⟨w.heap.size, 3, none⟩ = false := bx1.fz 3
      have cx1_4 : w1.cell? ⟨w.heap.size, 4, none⟩ = some (.int .i64 t2) := bx1.cell 4
      have fx1_4 : w1.frozen? ⟨w.heap.size, 4, none⟩ = false := bx1.fz 4
      have cx1_5 : w1.cell? ⟨w.heap.size, 5, none⟩ = some (.int .i64 lt) := bx1.cell 5
      have fx1_5 : w1.frozen? ⟨w.heap.size, 5, none⟩ = false := bx1.fz 5
      have lx1 : w.heap.size < w1.heap.size := bx1.lt
      have HB1 : Below w.heap.size w w1 := (by repeat (first | with_reducible exact Below.refl _ _ | (with_reducible refine Below.alloc ?_ (by first | omega | (simp; done) | (simp; omega)) _) | (with_reducible refine Below.setCell ?_ (by first | omega | (simp; done) | (simp; omega)) _) | (with_reducible refine Below.drew ?_) | (with_reducible refine below_drewN ?_ _) | (with_reducible assumption) | (with_reducible refine bel_step (by with_reducible assumption) ?_ (by first | omega | (simp; done) | (simp; omega)))))
      have HZ1 := HB1.size
      clear hb1 hz1
      go_wp2_with fail
      refine (C2.out _ (by repeat (first | with_reducible exact Below.refl _ _ | (with_reducible refine Below.alloc ?_ (by first | omega | (simp; done) | (simp; omega)) _) | (with_reducible refine Below.setCell ?_ (by first | omega | (simp; done) | (simp; omega)) _) | (with_reducible refine Below.drew ?_) | (with_reducible refine below_drewN ?_ _) | (with_reducible assumption) | (with_reducible refine bel_step (by with_reducible assumption) ?_ (by first | omega | (simp; done) | (simp; omega)))))).mono ?_
      rintro e w2 ⟨rfl, hb2⟩
      have hz2 := hb2.size
      (try simp at hz2)
      have bx2 : Blk w2 (w.heap.size) 87 #[.int .i64 a, .int .i64 b, .bool false, .int .i64 t1, .int .i64 t2, .int .i64 lt] := (by refine BlkG.start ?_; (repeat (first | ((with_reducible apply BlkG.done); (with_reducible assumption); exact rfl) | (with_reducible exact BlkG.newAt (by first | (with_reducible rfl) | omega | (simp; done) | (simp; omega)) rfl) | (with_reducible refine BlkG.drew ?_) | (with_reducible refine BlkG.drewN ?_) | (with_reducible refine BlkG.set ?_) | (with_reducible refine BlkG.far (by first | omega | (simp; done) | (simp; omega)) ?_) | (with_reducible refine BlkG.alloc ?_) | (with_reducible refine BlkG.bel (by with_reducible assumption) (by first | omega | (simp; done) | (simp; omega)) ?_))))
      have cx2_0 : w2.cell? ⟨w.heap.size, 0, none⟩ = some (.int .i64 a) := bx2.cell 0
      have fx2_0 : w2.frozen? ⟨w.heap.size, 0, none⟩ = false := bx2.fz 0
      have cx2_1 : w2.cell? ⟨w.heap.size, 1, none⟩ = some (.int .i64 b) := bx2.cell 1
      have fx2_1 : w2.frozen? ⟨w.heap.size, 1, none⟩ = false := bx2.fz 1
      have cx2_2 : w2.cell? ⟨w.heap.size, 2, none⟩ = some (.bool false) := bx2.cell 2
      have fx2_2 : w2.frozen? ⟨w.heap.size, 2, none⟩ = false := bx2.fz 2
      have cx2_3 : w2.cell? ⟨w.heap.size, 3, none⟩ = some (.int .i64 t1) := bx2.cell 3
      have fx2_3 : w2.frozen? ⟨w.heap.size, 3, none⟩ = false := bx2.fz 3
      have cx2_4 : w2.cell? ⟨w.heap.size, 4, none⟩ = some (.int .i64 t2) := bx2.cell 4
      have fx2_4 : w2.frozen? ⟨w.heap.size, 4, none⟩ = false := bx2.fz 4
      have cx2_5 : w2.cell? ⟨w.heap.size, 5, none⟩ = some (.int .i64 lt) := bx2.cell 5
      have fx2_5 : w2.frozen? ⟨w.heap.size, 5, none⟩ = false := bx2.fz 5
      have lx2 : w.heap.size < w2.heap.size := bx2.lt
      have HB2 : Below w.heap.size w w2 := (by repeat (first | with_reducible exact Below.refl _ _ | (with_reducible refine Below.alloc ?_ (by first | omega | (simp; done) | (simp; omega)) _) | (with_reducible refine Below.setCell ?_ (by first | omega | (simp; done) | (simp; omega)) _) | (with_reducible refine Below.drew ?_) | (with_reducible refine below_drewN ?_ _) | (with_reducible assumption) | (with_reducible refine bel_step (by with_reducible assumption) ?_ (by first | omega | (simp; done) | (simp; omega)))))
      have HZ2 := HB2.size
      clear hb2 hz2 HB1 HZ1 bx1 lx1 cx1_0 fx1_0 cx1_1 fx1_1 cx1_2 fx1_2 cx1_3 fx1_3 cx1_4 fx1_4 cx1_5 fx1_5 
      go_wp2_with fail
      go_ret
      exact ⟨rfl, HB2⟩
set_option maxRecDepth 100000 in
set_option maxHeartbeats 4000000 in
theorem r2_Answer_full (W0 : World) (M B n : Nat) (A1 A2 : Option Addr) (c1 c2 : Nat) (t : Int) (uv : Value) (us : List RLetter) (a b t1 t2 lt : Int) (w : World) (h : RWorld qv W0 w M B n A1 A2 c1 c2 t uv us) (h1 : hasN n a = true) (h2 : hasN n b = true) (hl : 40 ≤ us.length) :
    Calls Tryd.prog 31 #[.pointer (some ⟨M, 0, none⟩), .agg #[.int .i64 a, .int .i64 b, .bool false, .int .i64 t1, .int .i64 t2, .int .i64 lt]] w fun e w' => e = .returned (.int .i64 4) ∧ Below w.heap.size w w' := by
  have C1 := Lib.hid (fun w' (hb : Below w.heap.size w w') => by have := r2_has W0 M B n A1 A2 c1 c2 t uv us a w' (h.below hb); rw [h1] at this; exact this)
  have C2 := Lib.hid (fun w' (hb : Below w.heap.size w w') => by have := r2_has W0 M B n A1 A2 c1 c2 t uv us b w' (h.below hb); rw [h2] at this; exact this)
  obtain ⟨A, c, rfl, hAc, hcm⟩ := own_slice h.row
  unfold maxLen at hcm
  have HG := Lib.hid (fun w' (hb : Below w.heap.size w w') => show w'.cell? ⟨M, 3, none⟩ = some (.slice A us.length c) from by rw [(h.below hb).blk.cell]; rfl)
  have hgw := Nat.lt_of_lt_of_le h.MB h.Bw
  have g1 : (40 : Int) ≤ (us.length : Int) := by omega
  clear h h1 h2
  go_enter Tryd.func31, Tryd.ntmps31
  go_wp2_with fail
  refine (C1.out _ (by repeat (first | with_reducible exact Below.refl _ _ | (with_reducible refine Below.alloc ?_ (by first | omega | (simp; done) | (simp; omega)) _) | (with_reducible refine Below.setCell ?_ (by first | omega | (simp; done) | (simp; omega)) _) | (with_reducible refine Below.drew ?_) | (with_reducible refine below_drewN ?_ _) | (with_reducible assumption) | (with_reducible refine bel_step (by with_reducible assumption) ?_ (by first | omega | (simp; done) | (simp; omega)))))).mono ?_
  rintro e w1 ⟨rfl, hb1⟩
  have hz1 := hb1.size
  (try simp at hz1)
  have agx : w.heap.size ≤ w.heap.size := by first | omega | (simp; done) | (simp; omega)
  have bx1 : Blk w1 (w.heap.size) 87 #[.int .i64 a, .int .i64 b, .bool false, .int .i64 t1, .int .i64 t2, .int .i64 lt] := (by refine BlkG.start ?_; (repeat (first | ((with_reducible apply BlkG.done); (with_reducible assumption); exact rfl) | (with_reducible exact BlkG.newAt (by first | (with_reducible rfl) | omega | (simp; done) | (simp; omega)) rfl) | (with_reducible refine BlkG.drew ?_) | (with_reducible refine BlkG.drewN ?_) | (with_reducible refine BlkG.set ?_) | (with_reducible refine BlkG.far (by first | omega | (simp; done) | (simp; omega)) ?_) | (with_reducible refine BlkG.alloc ?_) | (with_reducible refine BlkG.bel (by with_reducible assumption) (by first | omega | (simp; done) | (simp; omega)) ?_))))
  have cx1_0 : w1.cell? ⟨w.heap.size, 0, none⟩ = some (.int .i64 a) := bx1.cell 0
  have fx1_0 : w1.frozen? ⟨w.heap.size, 0, none⟩ = false := bx1.fz 0
  have cx1_1 : w1.cell? ⟨w.heap.size, 1, none⟩ = some (.int .i64 b) := bx1.cell 1
  have fx1_1 : w1.frozen? ⟨w.heap.size, 1, none⟩ = false := bx1.fz 1
  have cx1_2 : w1.cell? ⟨w.heap.size, 2, none⟩ = some (.bool false) := bx1.cell 2
  have fx1_2 : w1.frozen? ⟨w.heap.size, 2, none⟩ = false := bx1.fz 2
  have cx1_3 : w1.cell? ⟨w.heap.size, 3, none⟩ = some (.int .i64 t1) := bx1.cell 3
  have fx1_3 : w1.frozen? ⟨w.heap.size, 3, none⟩ = false := bx1.fz 3
  have cx1_4 : w1.cell? ⟨w.heap.size, 4, none⟩ = some (.int .i64 t2) := bx1.cell 4
  have fx1_4 : w1.frozen? ⟨w.heap.size, 4, none⟩ = false := bx1.fz 4
  have cx1_5 : w1.cell? ⟨w.heap.size, 5, none⟩ = some (.int .i64 lt) := bx1.cell 5
  have fx1_5 : w1.frozen? ⟨w.heap.size, 5, none⟩ = false := bx1.fz 5
  have lx1 : w.heap.size < w1.heap.size := bx1.lt
  have HB1 : Below w.heap.size w w1 := (by repeat (first | with_reducible exact Below.refl _ _ | (with_reducible refine Below.alloc ?_ (by first | omega | (simp; done) | (simp; omega)) _) | (with_reducible refine Below.setCell ?_ (by first | omega | (simp; done) | (simp; omega)) _) | (with_reducible refine Below.drew ?_) | (with_reducible refine below_drewN ?_ _) | (with_reducible assumption) | (with_reducible refine bel_step (by with_reducible assumption) ?_ (by first | omega | (simp; done) | (simp; omega)))))
  have HZ1 := HB1.size
  clear hb1 hz1
  go_wp2_with fail
  refine (C2.out _ (by repeat (first | with_reducible exact Below.refl _ _ | (with_reducible refine Below.alloc ?_ (by first | omega | (simp; done) | (simp; omega)) _) | (with_reducible refine Below.setCell ?_ (by first | omega | (simp; done) | (simp; omega)) _) | (with_reducible refine Below.drew ?_) | (with_reducible refine below_drewN ?_ _) | (with_reducible assumption) | (with_reducible refine bel_step (by with_reducible assumption) ?_ (by first | omega | (simp; done) | (simp; omega)))))).mono ?_
  rintro e w2 ⟨rfl, hb2⟩
  have hz2 := hb2.size
  (try simp at hz2)
  have bx2 : Blk w2 (w.heap.size) 87 #[.int .i64 a, .int .i64 b, .bool false, .int .i64 t1, .int .i64 t2, .int .i64 lt] := (by refine BlkG.start ?_; (repeat (first | ((with_reducible apply BlkG.done); (with_reducible assumption); exact rfl) | (with_reducible exact BlkG.newAt (by first | (with_reducible rfl) | omega | (simp; done) | (simp; omega)) rfl) | (with_reducible refine BlkG.drew ?_) | (with_reducible refine BlkG.drewN ?_) | (with_reducible refine BlkG.set ?_) | (with_reducible refine BlkG.far (by first | omega | (simp; done) | (simp; omega)) ?_) | (with_reducible refine BlkG.alloc ?_) | (with_reducible refine BlkG.bel (by with_reducible assumption) (by first | omega | (simp; done) | (simp; omega)) ?_))))
  have cx2_0 : w2.cell? ⟨w.heap.size, 0, none⟩ = some (.int .i64 a) := bx2.cell 0
  have fx2_0 : w2.frozen? ⟨w.heap.size, 0, none⟩ = false := bx2.fz 0
  have cx2_1 : w2.cell? ⟨w.heap.size, 1, none⟩ = some (.int .i64 b) := bx2.cell 1
  have fx2_1 : w2.frozen? ⟨w.heap.size, 1, none⟩ = false := bx2.fz 1
  have cx2_2 : w2.cell? ⟨w.heap.size, 2, none⟩ = some (.bool false) := bx2.cell 2
  have fx2_2 : w2.frozen? ⟨w.heap.size, 2, none⟩ = false := bx2.fz 2
  have cx2_3 : w2.cell? ⟨w.heap.size, 3, none⟩ = some (.int .i64 t1) := bx2.cell 3
  have fx2_3 : w2.frozen? ⟨w.heap.size, 3, none⟩ = false := bx2.fz 3
  have cx2_4 : w2.cell? ⟨w.heap.size, 4, none⟩ = some (.int .i64 t2) := bx2.cell 4
  have fx2_4 : w2.frozen? ⟨w.heap.size, 4, none⟩ = false := bx2.fz 4
  have cx2_5 : w2.cell? ⟨w.heap.size, 5, none⟩ = some (.int .i64 lt) := bx2.cell 5
  have fx2_5 : w2.frozen? ⟨w.heap.size, 5, none⟩ = false := bx2.fz 5
  have lx2 : w.heap.size < w2.heap.size := bx2.lt
  have HB2 : Below w.heap.size w w2 := (by repeat (first | with_reducible exact Below.refl _ _ | (with_reducible refine Below.alloc ?_ (by first | omega | (simp; done) | (simp; omega)) _) | (with_reducible refine Below.setCell ?_ (by first | omega | (simp; done) | (simp; omega)) _) | (with_reducible refine Below.drew ?_) | (with_reducible refine below_drewN ?_ _) | (with_reducible assumption) | (with_reducible refine bel_step (by with_reducible assumption) ?_ (by first | omega | (simp; done) | (simp; omega)))))
  have HZ2 := HB2.size
  clear hb2 hz2 HB1 HZ1 bx1 lx1 cx1_0 fx1_0 cx1_1 fx1_1 cx1_2 fx1_2 cx1_3 fx1_3 cx1_4 fx1_4 cx1_5 fx1_5 
  have y0 := HG.out w2 HB2
  clear C1 C2
  go_wp2_with fail
  go_ret
  exact ⟨rfl, HB2⟩
end Go.Proofs.YtmficdfihogffaaDoor

/- The reference's acts that fail, and its time, walked. -/
namespace Go.Proofs.YtmficdfihogffaaDoor
open Go.RowKit
set_option linter.unusedVariables false
set_option linter.unusedSimpArgs false
variable {qv : Value}
/-- no letter. -/
def noL : Value := .agg #[.int .i64 0, .int .i64 0, .bool false, .int .i64 0, .int .i64 0, .int .i64 0]
theorem do_results (W : World) (tmps : Array Value) (p : Nat) (a b : Int) (q : Bool) (c d e : Int) (z : Bool) (y : Int) (hb : Blk W p 87 #[.int .i64 a, .int .i64 b, .bool q, .int .i64 c, .int .i64 d, .int .i64 e])
    (h4 : tmps[4]?.getD undef = .pointer (some ⟨p, 0, none⟩)) (h5 : tmps[5]?.getD undef = .bool z) (h6 : tmps[6]?.getD undef = .int .i64 y) :
    (results Tryd.f29 tmps).run Tryd.prog W = .ok (.tuple #[.agg #[.int .i64 a, .int .i64 b, .bool q, .int .i64 c, .int .i64 d, .int .i64 e], .bool z, .int .i64 y]) W := by
  have x0 : W.cell? ⟨p, 0, none⟩ = some (.int .i64 a) := hb.cell 0
  have x1 : W.cell? ⟨p, 1, none⟩ = some (.int .i64 b) := hb.cell 1
  have x2 : W.cell? ⟨p, 2, none⟩ = some (.bool q) := hb.cell 2
  have x3 : W.cell? ⟨p, 3, none⟩ = some (.int .i64 c) := hb.cell 3
  have x4 : W.cell? ⟨p, 4, none⟩ = some (.int .i64 d) := hb.cell 4
  have x5 : W.cell? ⟨p, 5, none⟩ = some (.int .i64 e) := hb.cell 5
  clear hb
  simp [results, Tryd.results29, go_sem, h4, h5, h6, x0, x1, x2, x3, x4, x5]
set_option maxRecDepth 100000 in
set_option maxHeartbeats 4000000 in
theorem r2_Do_other (M : Nat) (k a b : Int) (w : World) (h1 : k ≠ 1) (h2 : k ≠ 2) (h3 : k ≠ 3) (h4 : k ≠ 4) (h5 : k ≠ 5) :
    Calls Tryd.prog 29 #[.pointer (some ⟨M, 0, none⟩), .agg #[.int .i64 k, .int .i64 a, .int .i64 b]] w fun e w' => e = .returned (.tuple #[noL, .bool false, .int .i64 1]) ∧ Below w.heap.size w w' := by
  have b1 : (k == 1) = false := by simp; exact h1
  have b2 : (k == 2) = false := by simp; exact h2
  have b3 : (k == 3) = false := by simp; exact h3
  have b4 : (k == 4) = false := by simp; exact h4
  have b5 : (k == 5) = false := by simp; exact h5
  go_enter Tryd.func29, Tryd.ntmps29
  go_wp2_with fail
  (try simp only [Exit.inBlock, Exit.then])
  refine bodyPost_ret (do_results _ _ (w.heap.size + 1) 0 0 false 0 0 0 false 1 (by refine BlkG.start ?_; (repeat (first | ((with_reducible apply BlkG.done); (with_reducible assumption); exact rfl) | (with_reducible exact BlkG.newAt (by first | (with_reducible rfl) | omega | (simp; done) | (simp; omega)) rfl) | (with_reducible refine BlkG.drew ?_) | (with_reducible refine BlkG.drewN ?_) | (with_reducible refine BlkG.set ?_) | (with_reducible refine BlkG.far (by first | omega | (simp; done) | (simp; omega)) ?_) | (with_reducible refine BlkG.alloc ?_) | (with_reducible refine BlkG.bel (by with_reducible assumption) (by first | omega | (simp; done) | (simp; omega)) ?_)))) rfl rfl rfl) rfl ?_
  exact ⟨rfl, (by repeat (first | with_reducible exact Below.refl _ _ | (with_reducible refine Below.alloc ?_ (by first | omega | (simp; done) | (simp; omega)) _) | (with_reducible refine Below.setCell ?_ (by first | omega | (simp; done) | (simp; omega)) _) | (with_reducible refine Below.drew ?_) | (with_reducible refine below_drewN ?_ _) | (with_reducible assumption) | (with_reducible refine bel_step (by with_reducible assumption) ?_ (by first | omega | (simp; done) | (simp; omega)))))⟩
set_option maxRecDepth 100000 in
set_option maxHeartbeats 4000000 in
theorem r2_Do_gone (W0 : World) (M B n : Nat) (A1 A2 : Option Addr) (c1 c2 : Nat) (t : Int) (uv : Value) (us : List RLetter) (a b : Int) (w : World) (h : RWorld qv W0 w M B n A1 A2 c1 c2 t uv us) (h0 : 0 ≤ a) (h1 : a ≤ 1000000) (h2 : t + a ≤ 1000000000) :
    Calls Tryd.prog 29 #[.pointer (some ⟨M, 0, none⟩), .agg #[.int .i64 1, .int .i64 a, .int .i64 b]] w fun e w' => e = .returned (.tuple #[noL, .bool false, .int .i64 0]) ∧ RWorld qv W0 w' M B n A1 A2 c1 c2 (t + a) uv us ∧ Kept (Mine M uv) w w' := by
  have t0 := h.t0
  have hgB := h.MB
  have hBw := h.Bw
  have k2 := h.blk.cell 2
  have kf := fun o => h.blk.fz o
  have kl := h.blk.lt
  simp at k2
  have HKey := Lib.hid (fun (W : World) (hT : Touched M w W) (hb : ∀ x y, Blk w M 58 #[x, y, .int .i64 t, uv, qv] → Blk W M 58 #[x, y, .int .i64 (t + a), uv, qv]) => show RWorld qv W0 W M B n A1 A2 c1 c2 (t + a) uv us ∧ Kept (Mine M uv) w W from by
    have hK := (Kept.refl (Mine M uv) w).touched hT (.inl (.inl rfl))
    exact ⟨h.next hK (hb _ _ h.blk) (own_touched h.row hT hgB) h.l40 h.lok (by omega) (by omega), hK⟩)
  clear h
  have u1 := IntWalk.i64_in (t + a) (by omega)
  have u2 := IntWalk.i64_in (1000000000 - t) (by omega)
  have d1 : decide (a < 0) = false := decide_eq_false (by omega)
  have d2 : decide (1000000 < a) = false := decide_eq_false (by omega)
  have d3 : decide (1000000000 - t < a) = false := decide_eq_false (by omega)
  go_enter Tryd.func29, Tryd.ntmps29
  go_wp2_with fail
  go_quiet (fail)
  go_wp2_with fail
  go_region
  all_goals
    go_wp2_with fail
    (try simp only [Exit.inBlock, Exit.then])
    refine bodyPost_ret (do_results _ _ (w.heap.size + 1) 0 0 false 0 0 0 false 0 (by refine BlkG.start ?_; (repeat (first | ((with_reducible apply BlkG.done); (with_reducible assumption); exact rfl) | (with_reducible exact BlkG.newAt (by first | (with_reducible rfl) | omega | (simp; done) | (simp; omega)) rfl) | (with_reducible refine BlkG.drew ?_) | (with_reducible refine BlkG.drewN ?_) | (with_reducible refine BlkG.set ?_) | (with_reducible refine BlkG.far (by first | omega | (simp; done) | (simp; omega)) ?_) | (with_reducible refine BlkG.alloc ?_) | (with_reducible refine BlkG.bel (by with_reducible assumption) (by first | omega | (simp; done) | (simp; omega)) ?_)))) rfl rfl rfl) rfl ?_
  all_goals
    refine ⟨rfl, HKey.out _ (by repeat (first | with_reducible exact Touched.refl _ _ | (with_reducible refine Touched.alloc ?_ _) | (with_reducible refine Touched.setp ?_ _ (by first | exact .inl rfl | (right; first | omega | (simp; done) | (simp; omega))) _) | (with_reducible refine Touched.drew ?_) | (with_reducible refine Touched.drewN ?_ _) | (with_reducible assumption) | (with_reducible refine Touched.then (by with_reducible assumption) ?_))) (fun x y k => ?_)⟩
    exact (by refine BlkG.start ?_; (repeat (first | ((with_reducible apply BlkG.done); (with_reducible assumption); exact rfl) | (with_reducible exact BlkG.newAt (by first | (with_reducible rfl) | omega | (simp; done) | (simp; omega)) rfl) | (with_reducible refine BlkG.drew ?_) | (with_reducible refine BlkG.drewN ?_) | (with_reducible refine BlkG.set ?_) | (with_reducible refine BlkG.far (by first | omega | (simp; done) | (simp; omega)) ?_) | (with_reducible refine BlkG.alloc ?_) | (with_reducible refine BlkG.bel (by with_reducible assumption) (by first | omega | (simp; done) | (simp; omega)) ?_))))
end Go.Proofs.YtmficdfihogffaaDoor

/- The reference's acts that fail behind a guard, walked. -/
namespace Go.Proofs.YtmficdfihogffaaDoor
open Go.RowKit
set_option linter.unusedVariables false
set_option linter.unusedSimpArgs false
variable {qv : Value}
set_option maxRecDepth 100000 in
set_option maxHeartbeats 4000000 in
theorem r2_Do_stays (W0 : World) (M B n : Nat) (A1 A2 : Option Addr) (c1 c2 : Nat) (t : Int) (uv : Value) (us : List RLetter) (a b : Int) (w : World) (h : RWorld qv W0 w M B n A1 A2 c1 c2 t uv us) (ha : i64B a) (h0 : a < 0 ∨ 1000000 < a ∨ 1000000000 < t + a) :
    Calls Tryd.prog 29 #[.pointer (some ⟨M, 0, none⟩), .agg #[.int .i64 1, .int .i64 a, .int .i64 b]] w fun e w' => e = .returned (.tuple #[noL, .bool false, .int .i64 1]) ∧ Below w.heap.size w w' := by
  have t0 := h.t0
  have t1 := h.t1
  have k2 := h.blk.cell 2
  have kl := h.blk.lt
  simp at k2
  clear h
  have hd : decide (a < 0) = true ∨ (decide (a < 0) = false ∧ decide (1000000 < a) = true) ∨ (decide (a < 0) = false ∧ decide (1000000 < a) = false ∧ decide (1000000000 - t < a) = true ∧ IntKind.i64.wrap (1000000000 - t) = 1000000000 - t) := by
    by_cases d1 : a < 0
    · exact .inl (decide_eq_true d1)
    · by_cases d2 : 1000000 < a
      · exact .inr (.inl ⟨decide_eq_false d1, decide_eq_true d2⟩)
      · exact .inr (.inr ⟨decide_eq_false d1, decide_eq_false d2, decide_eq_true (by omega), IntWalk.i64_in (1000000000 - t) (by omega)⟩)
  clear h0
  rcases hd with d1 | ⟨d1, d2⟩ | ⟨d1, d2, d3, u1⟩
  all_goals
    have hle : w.heap.size ≤ w.heap.size + 1 := by omega
    go_enter Tryd.func29, Tryd.ntmps29
    go_wp2_with fail
    go_quiet (fail)
    go_wp2_with fail
    (try simp only [Exit.inBlock, Exit.then])
    refine bodyPost_ret (do_results _ _ (w.heap.size + 1) 0 0 false 0 0 0 false 1 (by refine BlkG.start ?_; (repeat (first | ((with_reducible apply BlkG.done); (with_reducible assumption); exact rfl) | (with_reducible exact BlkG.newAt (by first | (with_reducible rfl) | omega | (simp; done) | (simp; omega)) rfl) | (with_reducible refine BlkG.drew ?_) | (with_reducible refine BlkG.drewN ?_) | (with_reducible refine BlkG.set ?_) | (with_reducible refine BlkG.far (by first | omega | (simp; done) | (simp; omega)) ?_) | (with_reducible refine BlkG.alloc ?_) | (with_reducible refine BlkG.bel (by with_reducible assumption) (by first | omega | (simp; done) | (simp; omega)) ?_)))) rfl rfl rfl) rfl ?_
    exact ⟨rfl, (((((((below_drewN (((Below.refl _ w).alloc (Nat.le_refl _) _).alloc (by simp) _) _).setCell hle _).setCell hle _).setCell hle _).setCell hle _).setCell hle _).setCell hle _)⟩
end Go.Proofs.YtmficdfihogffaaDoor

/- Letters that the reference has not, walked. -/
namespace Go.Proofs.YtmficdfihogffaaDoor
open Go.RowKit
set_option linter.unusedVariables false
set_option linter.unusedSimpArgs false
variable {qv : Value}
set_option maxRecDepth 100000 in
set_option maxHeartbeats 4000000 in
theorem r2_Do_none (W0 : World) (M B n : Nat) (A1 A2 : Option Addr) (c1 c2 : Nat) (t : Int) (uv : Value) (us : List RLetter) (k a b : Int) (w : World) (h : RWorld qv W0 w M B n A1 A2 c1 c2 t uv us) (hk : k = 3 ∨ k = 4 ∨ k = 5) (ha : a < 0 ∨ (us.length : Int) ≤ a) :
    Calls Tryd.prog 29 #[.pointer (some ⟨M, 0, none⟩), .agg #[.int .i64 k, .int .i64 a, .int .i64 b]] w fun e w' => e = .returned (.tuple #[noL, .bool false, .int .i64 5]) ∧ Below w.heap.size w w' := by
  obtain ⟨A, c, rfl, hAc, hcm⟩ := own_slice h.row
  unfold maxLen at hcm
  have c3 := h.blk.cell 3
  have kl := h.blk.lt
  simp at c3
  clear h
  have key : a < 0 ∨ (¬ a < 0 ∧ (us.length : Int) ≤ a) := by omega
  rcases key with d1 | ⟨d1, d2⟩
  · have e1 : decide (a < 0) = true := decide_eq_true d1
    clear ha
    rcases hk with rfl | rfl | rfl
    all_goals
      have hle : w.heap.size ≤ w.heap.size + 1 := by omega
      go_enter Tryd.func29, Tryd.ntmps29
      go_wp2_with fail
      go_quiet (fail)
      go_wp2_with fail
      (try simp only [Exit.inBlock, Exit.then])
      refine bodyPost_ret (do_results _ _ (w.heap.size + 1) 0 0 false 0 0 0 false 5 (by refine BlkG.start ?_; (repeat (first | ((with_reducible apply BlkG.done); (with_reducible assumption); exact rfl) | (with_reducible exact BlkG.newAt (by first | (with_reducible rfl) | omega | (simp; done) | (simp; omega)) rfl) | (with_reducible refine BlkG.drew ?_) | (with_reducible refine BlkG.drewN ?_) | (with_reducible refine BlkG.set ?_) | (with_reducible refine BlkG.far (by first | omega | (simp; done) | (simp; omega)) ?_) | (with_reducible refine BlkG.alloc ?_) | (with_reducible refine BlkG.bel (by with_reducible assumption) (by first | omega | (simp; done) | (simp; omega)) ?_)))) rfl rfl rfl) rfl ?_
      exact ⟨rfl, (((((((below_drewN (((Below.refl _ w).alloc (Nat.le_refl _) _).alloc (by simp) _) _).setCell hle _).setCell hle _).setCell hle _).setCell hle _).setCell hle _).setCell hle _)⟩
  · have e1 : decide (a < 0) = false := decide_eq_false d1
    clear ha
    rcases hk with rfl | rfl | rfl
    all_goals
      have hle : w.heap.size ≤ w.heap.size + 1 := by omega
      go_enter Tryd.func29, Tryd.ntmps29
      go_wp2_with fail
      go_quiet (fail)
      go_wp2_with fail
      (try simp only [Exit.inBlock, Exit.then])
      refine bodyPost_ret (do_results _ _ (w.heap.size + 1) 0 0 false 0 0 0 false 5 (by refine BlkG.start ?_; (repeat (first | ((with_reducible apply BlkG.done); (with_reducible assumption); exact rfl) | (with_reducible exact BlkG.newAt (by first | (with_reducible rfl) | omega | (simp; done) | (simp; omega)) rfl) | (with_reducible refine BlkG.drew ?_) | (with_reducible refine BlkG.drewN ?_) | (with_reducible refine BlkG.set ?_) | (with_reducible refine BlkG.far (by first | omega | (simp; done) | (simp; omega)) ?_) | (with_reducible refine BlkG.alloc ?_) | (with_reducible refine BlkG.bel (by with_reducible assumption) (by first | omega | (simp; done) | (simp; omega)) ?_)))) rfl rfl rfl) rfl ?_
      exact ⟨rfl, (((((((below_drewN (((Below.refl _ w).alloc (Nat.le_refl _) _).alloc (by simp) _) _).setCell hle _).setCell hle _).setCell hle _).setCell hle _).setCell hle _).setCell hle _)⟩
end Go.Proofs.YtmficdfihogffaaDoor

/- The reference: the least, the greatest, what is in both, walked. -/
namespace Go.Proofs.YtmficdfihogffaaDoor
open Go.RowKit
set_option linter.unusedVariables false
set_option linter.unusedSimpArgs false
theorem r1_Least (a b : Int) (w : World) :
    Calls Tryd.prog 78 #[.int .i64 a, .int .i64 b] w fun e w' => e = .returned (.int .i64 (min a b)) ∧ w = w' := by
  go_enter Tryd.func78, Tryd.ntmps78
  go_wp2
  all_goals (go_ret; exact ⟨ret_int (by omega), rfl⟩)
theorem r1_Greatest (a b : Int) (w : World) :
    Calls Tryd.prog 77 #[.int .i64 a, .int .i64 b] w fun e w' => e = .returned (.int .i64 (max a b)) ∧ w = w' := by
  go_enter Tryd.func77, Tryd.ntmps77
  go_wp2
  all_goals (go_ret; exact ⟨ret_int (by omega), rfl⟩)
set_option maxHeartbeats 1000000 in
theorem r1_Meet (a b c d : Int) (w : World) :
    Calls Tryd.prog 58 #[.agg #[.int .i64 a, .int .i64 b], .agg #[.int .i64 c, .int .i64 d]] w fun e w' => e = .returned (.tuple #[.agg #[.int .i64 (max a c), .int .i64 (min b d)], .bool (commonB a b c d)]) ∧ Below w.heap.size w w' := by
  have g0 : ∀ n : Nat, n < n + 1 := fun n => by omega
  go_enter Tryd.func58, Tryd.ntmps58
  go_wp2_with fail
  go_region_held3 (fun w' => w'.cell? ⟨w.heap.size, 0, none⟩ = some (.int .i64 a) ∧ w'.cell? ⟨w.heap.size, 1, none⟩ = some (.int .i64 b) ∧ w'.cell? ⟨w.heap.size + 1, 0, none⟩ = some (.int .i64 c) ∧ w'.cell? ⟨w.heap.size + 1, 1, none⟩ = some (.int .i64 d)) (go_keep)
    (first | (go_at_call 77; refine (r1_Greatest _ _ _).mono ?_; rintro e w' ⟨rfl, rfl⟩) | (go_at_call 78; refine (r1_Least _ _ _).mono ?_; rintro e w' ⟨rfl, rfl⟩))
  all_goals
    go_wp2_with fail
    (try go_region)
    (try go_wp2_with fail)
    refine bodyPost_ret (v := .tuple #[.agg #[.int .i64 (max a c), .int .i64 (min b d)], .bool (commonB a b c d)]) (by simp [results, Tryd.results58, go_sem, commonB]) rfl ⟨rfl, ?_⟩
    exact (by repeat (first | with_reducible exact Below.refl _ _ | (with_reducible refine Below.alloc ?_ (by first | omega | (simp; done) | (simp; omega)) _) | (with_reducible refine Below.setCell ?_ (by first | omega | (simp; done) | (simp; omega)) _) | (with_reducible refine Below.drew ?_) | (with_reducible refine below_drewN ?_ _) | (with_reducible assumption) | (with_reducible refine bel_step (by with_reducible assumption) ?_ (by first | omega | (simp; done) | (simp; omega)))))
end Go.Proofs.YtmficdfihogffaaDoor

/- The reference's node: Back, aged, walked. -/
namespace Go.Proofs.YtmficdfihogffaaDoor
open Go.RowKit
set_option linter.unusedVariables false
set_option linter.unusedSimpArgs false
structure RNodeAt (w : World) (M : Nat) (s : NSt) : Prop where
  blk : Blk w M 82 (rcells s)
  ok : s.Ok
theorem RNodeAt.below {w w' : World} {M : Nat} {s : NSt} (h : RNodeAt w M s) (hb : Below w.heap.size w w') : RNodeAt w' M s := ⟨h.blk.below hb h.blk.lt, h.ok⟩
theorem RNodeAt.other {w w' : World} {M : Nat} {s : NSt} {P : Nat → Prop} (h : RNodeAt w M s) (hk : Kept P w w') (h1 : ¬ P M) : RNodeAt w' M s := ⟨(hk.block M h.blk.lt h1).trans h.blk, h.ok⟩
theorem RNodeAt.c0 {w : World} {M : Nat} {s : NSt} (h : RNodeAt w M s) : w.cell? ⟨M, 0, none⟩ = some (.int .i64 s.id) := h.blk.cell 0
theorem RNodeAt.c1 {w : World} {M : Nat} {s : NSt} (h : RNodeAt w M s) : w.cell? ⟨M, 1, none⟩ = some (.int .i64 s.N) := h.blk.cell 1
theorem RNodeAt.c2 {w : World} {M : Nat} {s : NSt} (h : RNodeAt w M s) : w.cell? ⟨M, 2, none⟩ = some (.int .i64 s.p) := h.blk.cell 2
theorem RNodeAt.c3 {w : World} {M : Nat} {s : NSt} (h : RNodeAt w M s) : w.cell? ⟨M, 3, none⟩ = some (.int .i64 s.h) := h.blk.cell 3
theorem RNodeAt.chas {w : World} {M : Nat} {s : NSt} (h : RNodeAt w M s) {x : Nat} (hx : x < 6) : w.cell? ⟨M, 4 + x, none⟩ = some (.bool (s.f x).isSome) := (h.blk.cell (4 + x)).trans (rcell_has s hx)
theorem RNodeAt.clo {w : World} {M : Nat} {s : NSt} (h : RNodeAt w M s) {x : Nat} {k : Kn} (hx : x < 6) (hk : s.f x = some k) : w.cell? ⟨M, 10 + x * 2, none⟩ = some (.int .i64 k.lo) := (h.blk.cell (10 + x * 2)).trans ((rcell_lo s hx).trans (by unfold loV; rw [hk]; rfl))
theorem RNodeAt.chi {w : World} {M : Nat} {s : NSt} (h : RNodeAt w M s) {x : Nat} {k : Kn} (hx : x < 6) (hk : s.f x = some k) : w.cell? ⟨M, 10 + x * 2 + 1, none⟩ = some (.int .i64 k.hi) := (h.blk.cell (10 + x * 2 + 1)).trans ((rcell_hi s hx).trans (by unfold hiV; rw [hk]; rfl))
theorem RNodeAt.cat {w : World} {M : Nat} {s : NSt} (h : RNodeAt w M s) {x : Nat} {k : Kn} (hx : x < 6) (hk : s.f x = some k) : w.cell? ⟨M, 22 + x, none⟩ = some (.int .i64 k.at_) := (h.blk.cell (22 + x)).trans ((rcell_at s hx).trans (by unfold atV; rw [hk]; rfl))
set_option maxRecDepth 100000 in
set_option maxHeartbeats 4000000 in
theorem r2_Back (M : Nat) (s : NSt) (here : Int) (w : World) (h : RNodeAt w M s) :
    Calls Tryd.prog 56 #[.pointer (some ⟨M, 0, none⟩), .int .i64 here] w fun e w' => e = .returned (.bool (s.backB here)) ∧ w = w' := by
  have c3 := h.c3
  have hd : (here < 0 ∧ s.backB here = true) ∨ (¬ here < 0 ∧ 1000000000000 < here ∧ s.backB here = true) ∨ (¬ here < 0 ∧ ¬ 1000000000000 < here ∧ here < s.h ∧ s.backB here = true) ∨ (¬ here < 0 ∧ ¬ 1000000000000 < here ∧ ¬ here < s.h ∧ s.backB here = false) := by
    unfold NSt.backB
    by_cases d1 : here < 0
    · left; exact ⟨d1, by rw [decide_eq_true d1]; rfl⟩
    · by_cases d2 : 1000000000000 < here
      · right; left; exact ⟨d1, d2, by rw [decide_eq_true d2]; simp⟩
      · by_cases d3 : here < s.h
        · right; right; left; exact ⟨d1, d2, d3, by rw [decide_eq_true d3]; simp⟩
        · right; right; right; exact ⟨d1, d2, d3, by rw [decide_eq_false d1, decide_eq_false d2, decide_eq_false d3]; rfl⟩
  clear h
  obtain ⟨q, hq⟩ : ∃ q, s.backB here = q := ⟨_, rfl⟩
  rw [hq] at hd ⊢
  clear hq
  rcases hd with ⟨d1, rfl⟩ | ⟨d1, d2, rfl⟩ | ⟨d1, d2, d3, rfl⟩ | ⟨d1, d2, d3, rfl⟩
  all_goals
    go_enter Tryd.func56, Tryd.ntmps56
    go_wp2_with fail
    go_ret
    exact ⟨rfl, rfl⟩
set_option maxRecDepth 100000 in
set_option maxHeartbeats 8000000 in
theorem r2_aged (M : Nat) (s : NSt) (x : Nat) (here : Int) (k : Kn) (w : World) (h : RNodeAt w M s) (hx : x < 6) (hk : s.f x = some k) (hb : s.backB here = false) :
    Calls Tryd.prog 59 #[.pointer (some ⟨M, 0, none⟩), .int .i64 x, .int .i64 here] w fun e w' => e = .returned (.agg #[.int .i64 (ageL k s.p here), .int .i64 (ageH k s.p here)]) ∧ Below w.heap.size w w' := by
  obtain ⟨b1, b2, b3, b4, b5, b6, b7⟩ := age_bd h.ok hk hb
  have c2 := h.c2
  have ca := h.cat hx hk
  have cl := h.clo hx hk
  have ch := h.chi hx hk
  have kl := h.blk.lt
  have CS := Lib.hid (fun w => r1_Slack (here - k.at_) s.p w b1 (by omega) h.ok.p0 h.ok.p1)
  obtain ⟨v, hv⟩ : ∃ v, slackD (here - k.at_) s.p = v := ⟨_, rfl⟩
  have HA := Lib.hid (show ageL k s.p here = k.lo - v by unfold ageL; rw [hv])
  have HH := Lib.hid (show ageH k s.p here = k.hi + v by unfold ageH; rw [hv])
  rw [hv] at CS b3 b4
  rw [HA.out, HH.out]
  have u1 := IntWalk.i64_in (here - k.at_) (by omega)
  have u2 := IntWalk.i64_in (k.lo - v) (by omega)
  have u3 := IntWalk.i64_in (k.hi + v) (by omega)
  have q0 : (0 : Int) ≤ (x : Int) := by omega
  have q1 : (x : Int) < 6 := by omega
  clear h hk hb hv HA HH
  go_enter Tryd.func59, Tryd.ntmps59
  go_wp2_with fail
  go_quiet ((go_at_call 76; exact quiet_left (CS.out _)))
  go_wp2_with fail
  go_region
  go_wp2_with fail
  refine bodyPost_ret (v := .agg #[.int .i64 (k.lo - v), .int .i64 (k.hi + v)]) (by simp [results, Tryd.results59, go_sem]) rfl ⟨rfl, (by repeat (first | with_reducible exact Below.refl _ _ | (with_reducible refine Below.alloc ?_ (by first | omega | (simp; done) | (simp; omega)) _) | (with_reducible refine Below.setCell ?_ (by first | omega | (simp; done) | (simp; omega)) _) | (with_reducible refine Below.drew ?_) | (with_reducible refine below_drewN ?_ _) | (with_reducible assumption) | (with_reducible refine bel_step (by with_reducible assumption) ?_ (by first | omega | (simp; done) | (simp; omega)))))⟩
end Go.Proofs.YtmficdfihogffaaDoor

/- Time that goes on or may not; asks that fail; acts that are none, walked. -/
namespace Go.Proofs.YtmficdfihogffaaDoor
open Go.RowKit
set_option linter.unusedVariables false
set_option linter.unusedSimpArgs false
set_option maxRecDepth 100000 in
set_option maxHeartbeats 4000000 in
theorem world_Do_gone (g B n : Nat) (ss rs : List Int) (t : Int) (uv : Value) (us : List RLetter) (a b : Int) (w : World) (h : WorldU w g B n ss rs t uv us) (h0 : 0 ≤ a) (h1 : a ≤ 1000000) (h2 : t + a ≤ 1000000000) :
    Calls Tryd.prog 25 #[.pointer (some ⟨g, 0, none⟩), .agg #[.int .i64 1, .int .i64 a, .int .i64 b]] w fun e w' => e = .returned (.tuple #[.pointer none, .nilIface]) ∧ WorldU w' g B n ss rs (t + a) uv us ∧ Kept (Mine g uv) w w' := by
  have t0 := h.t0
  have hgB := h.gB
  have hBw := h.Bw
  obtain ⟨gs, cs, gr, cr, k1, _⟩ := h.ex
  have c2 := k1.cell 2
  have kf := fun o => k1.fz o
  have kl := k1.lt
  simp at c2
  have HKey := Lib.hid (fun (W : World) (hT : Touched g w W) (hb : ∀ x y, Blk w g 118 #[x, y, .int .i64 t, uv] → Blk W g 118 #[x, y, .int .i64 (t + a), uv]) => show WorldU W g B n ss rs (t + a) uv us ∧ Kept (Mine g uv) w W from by
    have hK := (Kept.refl (Mine g uv) w).touched hT (.inl (.inl rfl))
    exact ⟨h.next hK hb (own_touched h.row hT hgB) h.l40 h.lok (by omega) (by omega), hK⟩)
  clear h k1
  have u1 := IntWalk.i64_in (t + a) (by omega)
  have d1 : decide (a < 0) = false := decide_eq_false (by omega)
  have d2 : decide (1000000 < a) = false := decide_eq_false (by omega)
  have d3 : decide (1000000000 < t + a) = false := decide_eq_false (by omega)
  go_enter Tryd.func25, Tryd.ntmps25
  go_wp2_with fail
  go_quiet (fail)
  go_wp2_with fail
  go_region
  all_goals
    go_wp2_with fail
    go_ret2
  all_goals
    refine ⟨rfl, HKey.out _ (by repeat (first | with_reducible exact Touched.refl _ _ | (with_reducible refine Touched.alloc ?_ _) | (with_reducible refine Touched.setp ?_ _ (by first | exact .inl rfl | (right; first | omega | (simp; done) | (simp; omega))) _) | (with_reducible refine Touched.drew ?_) | (with_reducible refine Touched.drewN ?_ _) | (with_reducible assumption) | (with_reducible refine Touched.then (by with_reducible assumption) ?_))) (fun x y k => ?_)⟩
    exact (((((k.alloc _).drewN _).set 2 _).drew).conv rfl)
set_option maxRecDepth 100000 in
set_option maxHeartbeats 4000000 in
theorem world_Do_stays (g B n : Nat) (ss rs : List Int) (t : Int) (uv : Value) (us : List RLetter) (a b : Int) (w : World) (h : WorldU w g B n ss rs t uv us) (ha : i64B a) (h0 : a < 0 ∨ 1000000 < a ∨ 1000000000 < t + a) :
    Calls Tryd.prog 25 #[.pointer (some ⟨g, 0, none⟩), .agg #[.int .i64 1, .int .i64 a, .int .i64 b]] w fun e w' => e = .returned (.tuple #[.pointer none, .iface 75 (.int .i64 1)]) ∧ Below w.heap.size w w' := by
  have t0 := h.t0
  have t1 := h.t1
  obtain ⟨gs, cs, gr, cr, k1, _⟩ := h.ex
  have c2 := k1.cell 2
  have kl := k1.lt
  simp at c2
  clear h k1
  have hd : decide (a < 0) = true ∨ (decide (a < 0) = false ∧ decide (1000000 < a) = true) ∨ (decide (a < 0) = false ∧ decide (1000000 < a) = false ∧ decide (1000000000 < t + a) = true ∧ IntKind.i64.wrap (t + a) = t + a) := by
    by_cases d1 : a < 0
    · exact .inl (decide_eq_true d1)
    · by_cases d2 : 1000000 < a
      · exact .inr (.inl ⟨decide_eq_false d1, decide_eq_true d2⟩)
      · exact .inr (.inr ⟨decide_eq_false d1, decide_eq_false d2, decide_eq_true (by omega), IntWalk.i64_in (t + a) (by omega)⟩)
  clear h0
  rcases hd with d1 | ⟨d1, d2⟩ | ⟨d1, d2, d3, u1⟩
  all_goals
    as_aux_lemma =>
      go_enter Tryd.func25, Tryd.ntmps25
      go_wp2_with fail
      go_quiet (fail)
      go_wp2_with fail
      go_ret2
      exact ⟨rfl, (by repeat (first | with_reducible exact Below.refl _ _ | (with_reducible refine Below.alloc ?_ (by first | omega | (simp; done) | (simp; omega)) _) | (with_reducible refine Below.setCell ?_ (by first | omega | (simp; done) | (simp; omega)) _) | (with_reducible refine Below.drew ?_) | (with_reducible refine below_drewN ?_ _) | (with_reducible assumption) | (with_reducible refine bel_step (by with_reducible assumption) ?_ (by first | omega | (simp; done) | (simp; omega)))))⟩
set_option maxRecDepth 100000 in
set_option maxHeartbeats 4000000 in
theorem world_Do_ask_no (g B n : Nat) (ss rs : List Int) (t : Int) (uv : Value) (us : List RLetter) (a b : Int) (w : World) (h : WorldU w g B n ss rs t uv us) (h0 : hasN n a = false ∨ hasN n b = false) :
    Calls Tryd.prog 25 #[.pointer (some ⟨g, 0, none⟩), .agg #[.int .i64 2, .int .i64 a, .int .i64 b]] w fun e w' => e = .returned (.tuple #[.pointer none, .iface 75 (.int .i64 1)]) ∧ Below w.heap.size w w' := by
  have CH := Lib.hid (fun (j : Int) w' (hb : Below w.heap.size w w') => world_has g n ss rs t uv j w' (h.at.below hb))
  clear h
  have hd : hasN n a = false ∨ (hasN n a = true ∧ hasN n b = false) := by
    cases h1 : hasN n a
    · exact .inl rfl
    · rw [h1] at h0; rcases h0 with h | h
      · cases h
      · exact .inr ⟨rfl, h⟩
  clear h0
  rcases hd with d1 | ⟨d1, d2⟩
  · have C1 := Lib.hid (fun w' hb => by have := CH.out a w' hb; rw [d1] at this; exact this)
    as_aux_lemma =>
      go_enter Tryd.func25, Tryd.ntmps25
      go_wp2_with fail
      refine (C1.out _ (by repeat (first | with_reducible exact Below.refl _ _ | (with_reducible refine Below.alloc ?_ (by first | omega | (simp; done) | (simp; omega)) _) | (with_reducible refine Below.setCell ?_ (by first | omega | (simp; done) | (simp; omega)) _) | (with_reducible refine Below.drew ?_) | (with_reducible refine below_drewN ?_ _) | (with_reducible assumption) | (with_reducible refine bel_step (by with_reducible assumption) ?_ (by first | omega | (simp; done) | (simp; omega)))))).mono ?_
      rintro e w1 ⟨rfl, hb1⟩
      have hz1 := hb1.size
      (try simp at hz1)
      have HB1 : Below w.heap.size w w1 := (by repeat (first | with_reducible exact Below.refl _ _ | (with_reducible refine Below.alloc ?_ (by first | omega | (simp; done) | (simp; omega)) _) | (with_reducible refine Below.setCell ?_ (by first | omega | (simp; done) | (simp; omega)) _) | (with_reducible refine Below.drew ?_) | (with_reducible refine below_drewN ?_ _) | (with_reducible assumption) | (with_reducible refine bel_step (by with_reducible assumption) ?_ (by first | omega | (simp; done) | (simp; omega)))))
      have HZ1 := HB1.size
      clear hb1 hz1
      go_wp2_with fail
      go_ret2
      exact ⟨rfl, HB1⟩
  · have C1 := Lib.hid (fun w' hb => by have := CH.out a w' hb; rw [d1] at this; exact this)
    have C2 := Lib.hid (fun w' hb => by have := CH.out b w' hb; rw [d2] at this; exact this)
    as_aux_lemma =>
      go_enter Tryd.func25, Tryd.ntmps25
      go_wp2_with fail
      refine (C1.out _ (by repeat (first | with_reducible exact Below.refl _ _ | (with_reducible refine Below.alloc ?_ (by first | omega | (simp; done) | (simp; omega)) _) | (with_reducible refine Below.setCell ?_ (by first | omega | (simp; done) | (simp; omega)) _) | (with_reducible refine Below.drew ?_) | (with_reducible refine below_drewN ?_ _) | (with_reducible assumption) | (with_reducible refine bel_step (by with_reducible assumption) ?_ (by first | omega | (simp; done) | (simp; omega)))))).mono ?_
      rintro e w1 ⟨rfl, hb1⟩
      have hz1 := hb1.size
      (try simp at hz1)
      have agx : w.heap.size ≤ w.heap.size := by first | omega | (simp; done) | (simp; omega)
      have bx1 : Blk w1 (w.heap.size) 35 #[.int .i64 2, .int .i64 a, .int .i64 b] := (by refine BlkG.start ?_; (repeat (first | ((with_reducible apply BlkG.done); (with_reducible assumption); exact rfl) | (with_reducible exact BlkG.newAt (by first | (with_reducible rfl) | omega | (simp; done) | (simp; omega)) rfl) | (with_reducible refine BlkG.drew ?_) | (with_reducible refine BlkG.drewN ?_) | (with_reducible refine BlkG.set ?_) | (with_reducible refine BlkG.far (by first | omega | (simp; done) | (simp; omega)) ?_) | (with_reducible refine BlkG.alloc ?_) | (with_reducible refine BlkG.bel (by with_reducible assumption) (by first | omega | (simp; done) | (simp; omega)) ?_))))
      have cx1_0 : w1.cell? ⟨w.heap.size, 0, none⟩ = some (.int .i64 2) := bx1.cell 0
      have fx1_0 : w1.frozen? ⟨w.heap.size, 0, none⟩ = false := bx1.fz 0
      have cx1_1 : w1.cell? ⟨w.heap.size, 1, none⟩ = some (.int .i64 a) := bx1.cell 1
      have fx1_1 : w1.frozen? ⟨w.heap.size, 1, none⟩ = false := bx1.fz 1
      have cx1_2 : w1.cell? ⟨w.heap.size, 2, none⟩ = some (.int .i64 b) := bx1.cell 2
      have fx1_2 : w1.frozen? ⟨w.heap.size, 2, none⟩ = false := bx1.fz 2
      have lx1 : w.heap.size < w1.heap.size := bx1.lt
      have HB1 : Below w.heap.size w w1 := (by repeat (first | with_reducible exact Below.refl _ _ | (with_reducible refine Below.alloc ?_ (by first | omega | (simp; done) | (simp; omega)) _) | (with_reducible refine Below.setCell ?_ (by first | omega | (simp; done) | (simp; omega)) _) | (with_reducible refine Below.drew ?_) | (with_reducible refine below_drewN ?_ _) | (with_reducible assumption) | (with_reducible refine bel_step (by with_reducible assumption) ?_ (by first | omega | (simp; done) | (simp; omega)))))
      have HZ1 := HB1.size
      clear hb1 hz1
      go_wp2_with fail
      refine (C2.out _ (by repeat (first | with_reducible exact Below.refl _ _ | (with_reducible refine Below.alloc ?_ (by first | omega | (simp; done) | (simp; omega)) _) | (with_reducible refine Below.setCell ?_ (by first | omega | (simp; done) | (simp; omega)) _) | (with_reducible refine Below.drew ?_) | (with_reducible refine below_drewN ?_ _) | (with_reducible assumption) | (with_reducible refine bel_step (by with_reducible assumption) ?_ (by first | omega | (simp; done) | (simp; omega)))))).mono ?_
      rintro e w2 ⟨rfl, hb2⟩
      have hz2 := hb2.size
      (try simp at hz2)
      have bx2 : Blk w2 (w.heap.size) 35 #[.int .i64 2, .int .i64 a, .int .i64 b] := (by refine BlkG.start ?_; (repeat (first | ((with_reducible apply BlkG.done); (with_reducible assumption); exact rfl) | (with_reducible exact BlkG.newAt (by first | (with_reducible rfl) | omega | (simp; done) | (simp; omega)) rfl) | (with_reducible refine BlkG.drew ?_) | (with_reducible refine BlkG.drewN ?_) | (with_reducible refine BlkG.set ?_) | (with_reducible refine BlkG.far (by first | omega | (simp; done) | (simp; omega)) ?_) | (with_reducible refine BlkG.alloc ?_) | (with_reducible refine BlkG.bel (by with_reducible assumption) (by first | omega | (simp; done) | (simp; omega)) ?_))))
      have cx2_0 : w2.cell? ⟨w.heap.size, 0, none⟩ = some (.int .i64 2) := bx2.cell 0
      have fx2_0 : w2.frozen? ⟨w.heap.size, 0, none⟩ = false := bx2.fz 0
      have cx2_1 : w2.cell? ⟨w.heap.size, 1, none⟩ = some (.int .i64 a) := bx2.cell 1
      have fx2_1 : w2.frozen? ⟨w.heap.size, 1, none⟩ = false := bx2.fz 1
      have cx2_2 : w2.cell? ⟨w.heap.size, 2, none⟩ = some (.int .i64 b) := bx2.cell 2
      have fx2_2 : w2.frozen? ⟨w.heap.size, 2, none⟩ = false := bx2.fz 2
      have lx2 : w.heap.size < w2.heap.size := bx2.lt
      have HB2 : Below w.heap.size w w2 := (by repeat (first | with_reducible exact Below.refl _ _ | (with_reducible refine Below.alloc ?_ (by first | omega | (simp; done) | (simp; omega)) _) | (with_reducible refine Below.setCell ?_ (by first | omega | (simp; done) | (simp; omega)) _) | (with_reducible refine Below.drew ?_) | (with_reducible refine below_drewN ?_ _) | (with_reducible assumption) | (with_reducible refine bel_step (by with_reducible assumption) ?_ (by first | omega | (simp; done) | (simp; omega)))))
      have HZ2 := HB2.size
      clear hb2 hz2 HB1 HZ1 bx1 lx1 cx1_0 fx1_0 cx1_1 fx1_1 cx1_2 fx1_2 
      go_wp2_with fail
      go_ret2
      exact ⟨rfl, HB2⟩
set_option maxRecDepth 100000 in
set_option maxHeartbeats 4000000 in
theorem world_Do_ask_same (g B n : Nat) (ss rs : List Int) (t : Int) (uv : Value) (us : List RLetter) (a : Int) (w : World) (h : WorldU w g B n ss rs t uv us) (h0 : hasN n a = true) :
    Calls Tryd.prog 25 #[.pointer (some ⟨g, 0, none⟩), .agg #[.int .i64 2, .int .i64 a, .int .i64 a]] w fun e w' => e = .returned (.tuple #[.pointer none, .iface 75 (.int .i64 3)]) ∧ Below w.heap.size w w' := by
  have CH := Lib.hid (fun w' (hb : Below w.heap.size w w') => by have := world_has g n ss rs t uv a w' (h.at.below hb); rw [h0] at this; exact this)
  clear h h0
  go_enter Tryd.func25, Tryd.ntmps25
  go_wp2_with fail
  refine (CH.out _ (by repeat (first | with_reducible exact Below.refl _ _ | (with_reducible refine Below.alloc ?_ (by first | omega | (simp; done) | (simp; omega)) _) | (with_reducible refine Below.setCell ?_ (by first | omega | (simp; done) | (simp; omega)) _) | (with_reducible refine Below.drew ?_) | (with_reducible refine below_drewN ?_ _) | (with_reducible assumption) | (with_reducible refine bel_step (by with_reducible assumption) ?_ (by first | omega | (simp; done) | (simp; omega)))))).mono ?_
  rintro e w1 ⟨rfl, hb1⟩
  have hz1 := hb1.size
  (try simp at hz1)
  have agx : w.heap.size ≤ w.heap.size := by first | omega | (simp; done) | (simp; omega)
  have bx1 : Blk w1 (w.heap.size) 35 #[.int .i64 2, .int .i64 a, .int .i64 a] := (by refine BlkG.start ?_; (repeat (first | ((with_reducible apply BlkG.done); (with_reducible assumption); exact rfl) | (with_reducible exact BlkG.newAt (by first | (with_reducible rfl) | omega | (simp; done) | (simp; omega)) rfl) | (with_reducible refine BlkG.drew ?_) | (with_reducible refine BlkG.drewN ?_) | (with_reducible refine BlkG.set ?_) | (with_reducible refine BlkG.far (by first | omega | (simp; done) | (simp; omega)) ?_) | (with_reducible refine BlkG.alloc ?_) | (with_reducible refine BlkG.bel (by with_reducible assumption) (by first | omega | (simp; done) | (simp; omega)) ?_))))
  have cx1_0 : w1.cell? ⟨w.heap.size, 0, none⟩ = some (.int .i64 2) := bx1.cell 0
  have fx1_0 : w1.frozen? ⟨w.heap.size, 0, none⟩ = false := bx1.fz 0
  have cx1_1 : w1.cell? ⟨w.heap.size, 1, none⟩ = some (.int .i64 a) := bx1.cell 1
  have fx1_1 : w1.frozen? ⟨w.heap.size, 1, none⟩ = false := bx1.fz 1
  have cx1_2 : w1.cell? ⟨w.heap.size, 2, none⟩ = some (.int .i64 a) := bx1.cell 2
  have fx1_2 : w1.frozen? ⟨w.heap.size, 2, none⟩ = false := bx1.fz 2
  have lx1 : w.heap.size < w1.heap.size := bx1.lt
  have HB1 : Below w.heap.size w w1 := (by repeat (first | with_reducible exact Below.refl _ _ | (with_reducible refine Below.alloc ?_ (by first | omega | (simp; done) | (simp; omega)) _) | (with_reducible refine Below.setCell ?_ (by first | omega | (simp; done) | (simp; omega)) _) | (with_reducible refine Below.drew ?_) | (with_reducible refine below_drewN ?_ _) | (with_reducible assumption) | (with_reducible refine bel_step (by with_reducible assumption) ?_ (by first | omega | (simp; done) | (simp; omega)))))
  have HZ1 := HB1.size
  clear hb1 hz1
  go_wp2_with fail
  refine (CH.out _ (by repeat (first | with_reducible exact Below.refl _ _ | (with_reducible refine Below.alloc ?_ (by first | omega | (simp; done) | (simp; omega)) _) | (with_reducible refine Below.setCell ?_ (by first | omega | (simp; done) | (simp; omega)) _) | (with_reducible refine Below.drew ?_) | (with_reducible refine below_drewN ?_ _) | (with_reducible assumption) | (with_reducible refine bel_step (by with_reducible assumption) ?_ (by first | omega | (simp; done) | (simp; omega)))))).mono ?_
  rintro e w2 ⟨rfl, hb2⟩
  have hz2 := hb2.size
  (try simp at hz2)
  have bx2 : Blk w2 (w.heap.size) 35 #[.int .i64 2, .int .i64 a, .int .i64 a] := (by refine BlkG.start ?_; (repeat (first | ((with_reducible apply BlkG.done); (with_reducible assumption); exact rfl) | (with_reducible exact BlkG.newAt (by first | (with_reducible rfl) | omega | (simp; done) | (simp; omega)) rfl) | (with_reducible refine BlkG.drew ?_) | (with_reducible refine BlkG.drewN ?_) | (with_reducible refine BlkG.set ?_) | (with_reducible refine BlkG.far (by first | omega | (simp; done) | (simp; omega)) ?_) | (with_reducible refine BlkG.alloc ?_) | (with_reducible refine BlkG.bel (by with_reducible assumption) (by first | omega | (simp; done) | (simp; omega)) ?_))))
  have cx2_0 : w2.cell? ⟨w.heap.size, 0, none⟩ = some (.int .i64 2) := bx2.cell 0
  have fx2_0 : w2.frozen? ⟨w.heap.size, 0, none⟩ = false := bx2.fz 0
  have cx2_1 : w2.cell? ⟨w.heap.size, 1, none⟩ = some (.int .i64 a) := bx2.cell 1
  have fx2_1 : w2.frozen? ⟨w.heap.size, 1, none⟩ = false := bx2.fz 1
  have cx2_2 : w2.cell? ⟨w.heap.size, 2, none⟩ = some (.int .i64 a) := bx2.cell 2
  have fx2_2 : w2.frozen? ⟨w.heap.size, 2, none⟩ = false := bx2.fz 2
  have lx2 : w.heap.size < w2.heap.size := bx2.lt
  have HB2 : Below w.heap.size w w2 := (by repeat (first | with_reducible exact Below.refl _ _ | (with_reducible refine Below.alloc ?_ (by first | omega | (simp; done) | (simp; omega)) _) | (with_reducible refine Below.setCell ?_ (by first | omega | (simp; done) | (simp; omega)) _) | (with_reducible refine Below.drew ?_) | (with_reducible refine below_drewN ?_ _) | (with_reducible assumption) | (with_reducible refine bel_step (by with_reducible assumption) ?_ (by first | omega | (simp; done) | (simp; omega)))))
  have HZ2 := HB2.size
  clear hb2 hz2 HB1 HZ1 bx1 lx1 cx1_0 fx1_0 cx1_1 fx1_1 cx1_2 fx1_2 
  go_wp2_with fail
  go_ret2
  exact ⟨rfl, HB2⟩
set_option maxRecDepth 100000 in
set_option maxHeartbeats 4000000 in
theorem world_Do_other (g : Nat) (k a b : Int) (w : World) (h1 : k ≠ 1) (h2 : k ≠ 2) (h3 : k ≠ 3) (h4 : k ≠ 4) (h5 : k ≠ 5) :
    Calls Tryd.prog 25 #[.pointer (some ⟨g, 0, none⟩), .agg #[.int .i64 k, .int .i64 a, .int .i64 b]] w fun e w' => e = .returned (.tuple #[.pointer none, .iface 75 (.int .i64 1)]) ∧ Below w.heap.size w w' := by
  have b1 : (k == 1) = false := by simp; exact h1
  have b2 : (k == 2) = false := by simp; exact h2
  have b3 : (k == 3) = false := by simp; exact h3
  have b4 : (k == 4) = false := by simp; exact h4
  have b5 : (k == 5) = false := by simp; exact h5
  go_enter Tryd.func25, Tryd.ntmps25
  go_wp2_with fail
  go_ret2
  exact ⟨rfl, (by repeat (first | with_reducible exact Below.refl _ _ | (with_reducible refine Below.alloc ?_ (by first | omega | (simp; done) | (simp; omega)) _) | (with_reducible refine Below.setCell ?_ (by first | omega | (simp; done) | (simp; omega)) _) | (with_reducible refine Below.drew ?_) | (with_reducible refine below_drewN ?_ _) | (with_reducible assumption) | (with_reducible refine bel_step (by with_reducible assumption) ?_ (by first | omega | (simp; done) | (simp; omega)))))⟩
end Go.Proofs.YtmficdfihogffaaDoor

/- An answer in a world, walked. -/
namespace Go.Proofs.YtmficdfihogffaaDoor
open Go.RowKit
set_option linter.unusedVariables false
set_option linter.unusedSimpArgs false
set_option maxRecDepth 100000 in
set_option maxHeartbeats 8000000 in
theorem world_Answer (g B n : Nat) (ss rs : List Int) (t : Int) (uv : Value) (us : List RLetter) (i k : Nat) (s r t1 t2 lt : Int) (w : World) (h : WorldU w g B n ss rs t uv us) (hs : ss[k]? = some s) (hr : rs[k]? = some r) (hin : i < n) (hl : us.length < 40) (hlt : i64B lt) :
    Calls Tryd.prog 28 #[.pointer (some ⟨g, 0, none⟩), .agg #[.int .i64 i, .int .i64 k, .bool false, .int .i64 t1, .int .i64 t2, .int .i64 lt]] w fun e w' => e = .returned .nilIface ∧ Sent w g B n ss rs t uv (us ++ [⟨k, i, true, lt, readV s r t, readV s r t⟩]) w' := by
  obtain ⟨i0, hi, hz0, hz1, hz2⟩ := info_parts infoLt
  have n6 := h.n6
  have hk : k < n := by rw [← h.ls]; exact (List.getElem?_eq_some_iff.1 hs).1
  have HU := Lib.hid h
  have CH := Lib.hid (fun (j : Nat) (hj : j < n) w' (hb : Below w.heap.size w w') => by have := world_has g n ss rs t uv j w' (h.at.below hb); rw [hasN_nat hj] at this; exact this)
  have CRd := Lib.hid (fun w' (hb : Below w.heap.size w w') => world_read g n ss rs t uv k s r w' (h.at.below hb) hs hr)
  obtain ⟨A, c, rfl, hAc, hcm⟩ := own_slice h.row
  unfold maxLen at hcm
  have HG := Lib.hid (fun w' (hb : Below w.heap.size w w') => show w'.cell? ⟨g, 3, none⟩ = some (.slice A us.length c) ∧ w'.frozen? ⟨g, 3, none⟩ = false from by
    obtain ⟨gs, cs, gr, cr, k1, _⟩ := (h.below hb).ex
    exact ⟨by rw [k1.cell]; rfl, k1.fz 3⟩)
  have hrd := readV_bd (h.sb k s hs).1 (h.sb k s hs).2 h.t0 h.t1 (h.rb k r hr).1 (h.rb k r hr).2
  have hgw := Nat.lt_of_lt_of_le h.gB h.Bw
  have hBw := h.Bw
  have hgB := h.gB
  have hlow := h.low
  obtain ⟨v, hv⟩ : ∃ v, readV s r t = v := ⟨_, rfl⟩
  rw [hv] at CRd hrd ⊢
  have HOk := Lib.hid (show RLetter.ok ⟨k, i, true, lt, v, v⟩ from by unfold i64B at hlt; unfold RLetter.ok i64B; simp only []; omega)
  have g1 : ¬ (40 : Int) ≤ (us.length : Int) := by omega
  clear h hs hr hv hlt
  go_enter Tryd.func28, Tryd.ntmps28
  go_wp2_with fail
  refine (CH.out i hin _ (by repeat (first | with_reducible exact Below.refl _ _ | (with_reducible refine Below.alloc ?_ (by first | omega | (simp; done) | (simp; omega)) _) | (with_reducible refine Below.setCell ?_ (by first | omega | (simp; done) | (simp; omega)) _) | (with_reducible refine Below.drew ?_) | (with_reducible refine below_drewN ?_ _) | (with_reducible assumption) | (with_reducible refine bel_step (by with_reducible assumption) ?_ (by first | omega | (simp; done) | (simp; omega)))))).mono ?_
  rintro e w1 ⟨rfl, hb1⟩
  have hz1 := hb1.size
  (try simp at hz1)
  have agx : w.heap.size ≤ w.heap.size := by first | omega | (simp; done) | (simp; omega)
  have bx1 : Blk w1 (w.heap.size) 87 #[.int .i64 i, .int .i64 k, .bool false, .int .i64 t1, .int .i64 t2, .int .i64 lt] := (by refine BlkG.start ?_; (repeat (first | ((with_reducible apply BlkG.done); (with_reducible assumption); exact rfl) | (with_reducible exact BlkG.newAt (by first | (with_reducible rfl) | omega | (simp; done) | (simp; omega)) rfl) | (with_reducible refine BlkG.drew ?_) | (with_reducible refine BlkG.drewN ?_) | (with_reducible refine BlkG.set ?_) | (with_reducible refine BlkG.far (by first | omega | (simp; done) | (simp; omega)) ?_) | (with_reducible refine BlkG.alloc ?_) | (with_reducible refine BlkG.bel (by with_reducible assumption) (by first | omega | (simp; done) | (simp; omega)) ?_))))
  have cx1_0 : w1.cell? ⟨w.heap.size, 0, none⟩ = some (.int .i64 i) := bx1.cell 0
  have fx1_0 : w1.frozen? ⟨w.heap.size, 0, none⟩ = false := bx1.fz 0
  have cx1_1 : w1.cell? ⟨w.heap.size, 1, none⟩ = some (.int .i64 k) := bx1.cell 1
  have fx1_1 : w1.frozen? ⟨w.heap.size, 1, none⟩ = false := bx1.fz 1
  have cx1_2 : w1.cell? ⟨w.heap.size, 2, none⟩ = some (.bool false) := bx1.cell 2
  have fx1_2 : w1.frozen? ⟨w.heap.size, 2, none⟩ = false := bx1.fz 2
  have cx1_3 : w1.cell? ⟨w.heap.size, 3, none⟩ = some (.int .i64 t1) := bx1.cell 3
  have fx1_3 : w1.frozen? ⟨w.heap.size, 3, none⟩ = false := bx1.fz 3
  have cx1_4 : w1.cell? ⟨w.heap.size, 4, none⟩ = some (.int .i64 t2) := bx1.cell 4
  have fx1_4 : w1.frozen? ⟨w.heap.size, 4, none⟩ = false := bx1.fz 4
  have cx1_5 : w1.cell? ⟨w.heap.size, 5, none⟩ = some (.int .i64 lt) := bx1.cell 5
  have fx1_5 : w1.frozen? ⟨w.heap.size, 5, none⟩ = false := bx1.fz 5
  have lx1 : w.heap.size < w1.heap.size := bx1.lt
  have HB1 : Below w.heap.size w w1 := (by repeat (first | with_reducible exact Below.refl _ _ | (with_reducible refine Below.alloc ?_ (by first | omega | (simp; done) | (simp; omega)) _) | (with_reducible refine Below.setCell ?_ (by first | omega | (simp; done) | (simp; omega)) _) | (with_reducible refine Below.drew ?_) | (with_reducible refine below_drewN ?_ _) | (with_reducible assumption) | (with_reducible refine bel_step (by with_reducible assumption) ?_ (by first | omega | (simp; done) | (simp; omega)))))
  have HZ1 := HB1.size
  clear hb1 hz1
  go_wp2_with fail
  refine (CH.out k hk _ (by repeat (first | with_reducible exact Below.refl _ _ | (with_reducible refine Below.alloc ?_ (by first | omega | (simp; done) | (simp; omega)) _) | (with_reducible refine Below.setCell ?_ (by first | omega | (simp; done) | (simp; omega)) _) | (with_reducible refine Below.drew ?_) | (with_reducible refine below_drewN ?_ _) | (with_reducible assumption) | (with_reducible refine bel_step (by with_reducible assumption) ?_ (by first | omega | (simp; done) | (simp; omega)))))).mono ?_
  rintro e w2 ⟨rfl, hb2⟩
  have hz2 := hb2.size
  (try simp at hz2)
  have bx2 : Blk w2 (w.heap.size) 87 #[.int .i64 i, .int .i64 k, .bool false, .int .i64 t1, .int .i64 t2, .int .i64 lt] := (by refine BlkG.start ?_; (repeat (first | ((with_reducible apply BlkG.done); (with_reducible assumption); exact rfl) | (with_reducible exact BlkG.newAt (by first | (with_reducible rfl) | omega | (simp; done) | (simp; omega)) rfl) | (with_reducible refine BlkG.drew ?_) | (with_reducible refine BlkG.drewN ?_) | (with_reducible refine BlkG.set ?_) | (with_reducible refine BlkG.far (by first | omega | (simp; done) | (simp; omega)) ?_) | (with_reducible refine BlkG.alloc ?_) | (with_reducible refine BlkG.bel (by with_reducible assumption) (by first | omega | (simp; done) | (simp; omega)) ?_))))
  have cx2_0 : w2.cell? ⟨w.heap.size, 0, none⟩ = some (.int .i64 i) := bx2.cell 0
  have fx2_0 : w2.frozen? ⟨w.heap.size, 0, none⟩ = false := bx2.fz 0
  have cx2_1 : w2.cell? ⟨w.heap.size, 1, none⟩ = some (.int .i64 k) := bx2.cell 1
  have fx2_1 : w2.frozen? ⟨w.heap.size, 1, none⟩ = false := bx2.fz 1
  have cx2_2 : w2.cell? ⟨w.heap.size, 2, none⟩ = some (.bool false) := bx2.cell 2
  have fx2_2 : w2.frozen? ⟨w.heap.size, 2, none⟩ = false := bx2.fz 2
  have cx2_3 : w2.cell? ⟨w.heap.size, 3, none⟩ = some (.int .i64 t1) := bx2.cell 3
  have fx2_3 : w2.frozen? ⟨w.heap.size, 3, none⟩ = false := bx2.fz 3
  have cx2_4 : w2.cell? ⟨w.heap.size, 4, none⟩ = some (.int .i64 t2) := bx2.cell 4
  have fx2_4 : w2.frozen? ⟨w.heap.size, 4, none⟩ = false := bx2.fz 4
  have cx2_5 : w2.cell? ⟨w.heap.size, 5, none⟩ = some (.int .i64 lt) := bx2.cell 5
  have fx2_5 : w2.frozen? ⟨w.heap.size, 5, none⟩ = false := bx2.fz 5
  have lx2 : w.heap.size < w2.heap.size := bx2.lt
  have HB2 : Below w.heap.size w w2 := (by repeat (first | with_reducible exact Below.refl _ _ | (with_reducible refine Below.alloc ?_ (by first | omega | (simp; done) | (simp; omega)) _) | (with_reducible refine Below.setCell ?_ (by first | omega | (simp; done) | (simp; omega)) _) | (with_reducible refine Below.drew ?_) | (with_reducible refine below_drewN ?_ _) | (with_reducible assumption) | (with_reducible refine bel_step (by with_reducible assumption) ?_ (by first | omega | (simp; done) | (simp; omega)))))
  have HZ2 := HB2.size
  clear hb2 hz2 HB1 HZ1 bx1 lx1 cx1_0 fx1_0 cx1_1 fx1_1 cx1_2 fx1_2 cx1_3 fx1_3 cx1_4 fx1_4 cx1_5 fx1_5 
  have y9 := (HG.out w2 HB2).1
  go_wp2_with fail
  refine (CRd.out _ (by repeat (first | with_reducible exact Below.refl _ _ | (with_reducible refine Below.alloc ?_ (by first | omega | (simp; done) | (simp; omega)) _) | (with_reducible refine Below.setCell ?_ (by first | omega | (simp; done) | (simp; omega)) _) | (with_reducible refine Below.drew ?_) | (with_reducible refine below_drewN ?_ _) | (with_reducible assumption) | (with_reducible refine bel_step (by with_reducible assumption) ?_ (by first | omega | (simp; done) | (simp; omega)))))).mono ?_
  rintro e w3 ⟨rfl, hb3⟩
  have hz3 := hb3.size
  (try simp at hz3)
  have bx3 : Blk w3 (w.heap.size) 87 #[.int .i64 i, .int .i64 k, .bool false, .int .i64 t1, .int .i64 t2, .int .i64 lt] := (by refine BlkG.start ?_; (repeat (first | ((with_reducible apply BlkG.done); (with_reducible assumption); exact rfl) | (with_reducible exact BlkG.newAt (by first | (with_reducible rfl) | omega | (simp; done) | (simp; omega)) rfl) | (with_reducible refine BlkG.drew ?_) | (with_reducible refine BlkG.drewN ?_) | (with_reducible refine BlkG.set ?_) | (with_reducible refine BlkG.far (by first | omega | (simp; done) | (simp; omega)) ?_) | (with_reducible refine BlkG.alloc ?_) | (with_reducible refine BlkG.bel (by with_reducible assumption) (by first | omega | (simp; done) | (simp; omega)) ?_))))
  have cx3_0 : w3.cell? ⟨w.heap.size, 0, none⟩ = some (.int .i64 i) := bx3.cell 0
  have fx3_0 : w3.frozen? ⟨w.heap.size, 0, none⟩ = false := bx3.fz 0
  have cx3_1 : w3.cell? ⟨w.heap.size, 1, none⟩ = some (.int .i64 k) := bx3.cell 1
  have fx3_1 : w3.frozen? ⟨w.heap.size, 1, none⟩ = false := bx3.fz 1
  have cx3_2 : w3.cell? ⟨w.heap.size, 2, none⟩ = some (.bool false) := bx3.cell 2
  have fx3_2 : w3.frozen? ⟨w.heap.size, 2, none⟩ = false := bx3.fz 2
  have cx3_3 : w3.cell? ⟨w.heap.size, 3, none⟩ = some (.int .i64 t1) := bx3.cell 3
  have fx3_3 : w3.frozen? ⟨w.heap.size, 3, none⟩ = false := bx3.fz 3
  have cx3_4 : w3.cell? ⟨w.heap.size, 4, none⟩ = some (.int .i64 t2) := bx3.cell 4
  have fx3_4 : w3.frozen? ⟨w.heap.size, 4, none⟩ = false := bx3.fz 4
  have cx3_5 : w3.cell? ⟨w.heap.size, 5, none⟩ = some (.int .i64 lt) := bx3.cell 5
  have fx3_5 : w3.frozen? ⟨w.heap.size, 5, none⟩ = false := bx3.fz 5
  have lx3 : w.heap.size < w3.heap.size := bx3.lt
  have HB3 : Below w.heap.size w w3 := (by repeat (first | with_reducible exact Below.refl _ _ | (with_reducible refine Below.alloc ?_ (by first | omega | (simp; done) | (simp; omega)) _) | (with_reducible refine Below.setCell ?_ (by first | omega | (simp; done) | (simp; omega)) _) | (with_reducible refine Below.drew ?_) | (with_reducible refine below_drewN ?_ _) | (with_reducible assumption) | (with_reducible refine bel_step (by with_reducible assumption) ?_ (by first | omega | (simp; done) | (simp; omega)))))
  have HZ3 := HB3.size
  clear hb3 hz3 HB2 HZ2 bx2 lx2 cx2_0 fx2_0 cx2_1 fx2_1 cx2_2 fx2_2 cx2_3 fx2_3 cx2_4 fx2_4 cx2_5 fx2_5 
  clear y9 CRd CH
  obtain ⟨u1, u2⟩ := HG.out w3 HB3
  have hgl : g < w3.heap.size := by omega
  have lbox := lx3
  have cb0 := cx3_0
  have cb1 := cx3_1
  have cb5 := cx3_5
  clear cx3_0 cx3_1 cx3_2 cx3_3 cx3_4 cx3_5 fx3_0 fx3_1 fx3_2 fx3_3 fx3_4 fx3_5 bx3
  go_wp2_with fail
  have KP := Lib.hid (fun w' (hb : Below w3.heap.size w3 w') => show w'.cell? ⟨w.heap.size, 0, none⟩ = some (.int .i64 i) ∧ w'.cell? ⟨w.heap.size, 1, none⟩ = some (.int .i64 k) ∧ w'.cell? ⟨w.heap.size, 5, none⟩ = some (.int .i64 lt) from ⟨(hb.cell (p := ⟨w.heap.size, 0, none⟩) lbox).trans cb0, (hb.cell (p := ⟨w.heap.size, 1, none⟩) lbox).trans cb1, (hb.cell (p := ⟨w.heap.size, 5, none⟩) lbox).trans cb5⟩)
  have KG := Lib.hid (fun W W' (hb : Below w3.heap.size w3 W) (hg : W.grownBy W' (Value.slice A us.length c).ownBlock) => show W'.cell? ⟨w.heap.size, 0, none⟩ = some (.int .i64 i) ∧ W'.cell? ⟨w.heap.size, 1, none⟩ = some (.int .i64 k) ∧ W'.cell? ⟨w.heap.size, 5, none⟩ = some (.int .i64 lt) from by
    have hne : some (w.heap.size) ≠ (Value.slice A us.length c).ownBlock := fun e => by have := (hlow _ e.symm).2; omega
    obtain ⟨y0, y1, y2⟩ := KP.out W hb
    exact ⟨hg.cell y0 hne, hg.cell y1 hne, hg.cell y2 hne⟩)
  have KN := Lib.hid (fun W W' (hb : Below w3.heap.size w3 W) (hg : W.grownBy W' (Value.slice A us.length c).ownBlock) => show W'.cell? ⟨g, 3, none⟩ = some (.slice A us.length c) ∧ W'.frozen? ⟨g, 3, none⟩ = false from by
    have hne : some g ≠ (Value.slice A us.length c).ownBlock := fun e => by have := (hlow _ e.symm).1; omega
    obtain ⟨k1, k2⟩ := HG.out W (HB3.trans (hb.mono HZ3))
    exact ⟨hg.cell k1 hne, (World.frozen?_of_block (hg.block g (Nat.lt_of_lt_of_le hgl hb.size) hne)).trans k2⟩)
  have KS := Lib.hid (fun (W : World) (v : Value) (hc : W.cell? ⟨w.heap.size, 0, none⟩ = some (.int .i64 i) ∧ W.cell? ⟨w.heap.size, 1, none⟩ = some (.int .i64 k) ∧ W.cell? ⟨w.heap.size, 5, none⟩ = some (.int .i64 lt)) => show (W.setCell ⟨g, 3, none⟩ v).cell? ⟨w.heap.size, 0, none⟩ = some (.int .i64 i) ∧ (W.setCell ⟨g, 3, none⟩ v).cell? ⟨w.heap.size, 1, none⟩ = some (.int .i64 k) ∧ (W.setCell ⟨g, 3, none⟩ v).cell? ⟨w.heap.size, 5, none⟩ = some (.int .i64 lt) from ⟨(World.cell?_setCell_other W _ _ v (fun e => by have := congrArg Addr.block e; simp at this; omega)).trans hc.1, (World.cell?_setCell_other W _ _ v (fun e => by have := congrArg Addr.block e; simp at this; omega)).trans hc.2.1, (World.cell?_setCell_other W _ _ v (fun e => by have := congrArg Addr.block e; simp at this; omega)).trans hc.2.2⟩)
  have HRow := Lib.hid (own_below HU.out.row HB3)
  have HBh := Lib.hid HB3
  have B0 := Lib.hid (show B ≤ w3.heap.size from Nat.le_trans hBw HB3.size)
  have B2 := Lib.hid (show us.length + 1 ≤ maxLen by unfold maxLen; omega)
  have B3 := Lib.hid (show (us.length + 1) * 48 ≤ 140737488355328 by omega)
  have hB4 : Below w3.heap.size w3 (w3.alloc (.cells (RLetter.cells ⟨k, i, true, lt, v, v⟩).toArray 87)).drew := ((Below.refl _ _).alloc (Nat.le_refl _) _).drew
  clear hlow
  refine wp_region_held_drew (S := fun w9 => w9.cell? ⟨w.heap.size, 0, none⟩ = some (.int .i64 i) ∧ w9.cell? ⟨w.heap.size, 1, none⟩ = some (.int .i64 k) ∧ w9.cell? ⟨w.heap.size, 5, none⟩ = some (.int .i64 lt)) (by kernel_rfl) (⟨cb0, cb1, cb5⟩) (fun hHeld => ?_)
  refine take_d (i := 0) (v := (.pointer (some ⟨g, 0, none⟩))) (d := some 36) rfl (by kernel_rfl) (by kernel_rfl) (by kernel_rfl) (by kernel_rfl) (fun _ _ _ h => h) (Or.inl ⟨by kernel_rfl, fun w9 hw9 => by (go_simp)⟩) hHeld ?_
  try simp only [Act.put, List.setIfInBounds_toArray, List.set_cons_zero, List.set_cons_succ]
  refine take_d (i := 1) (v := (.pointer (some ⟨g, 0, none⟩))) (d := some 37) rfl (by kernel_rfl) (by kernel_rfl) (by kernel_rfl) (by kernel_rfl) (fun _ _ _ h => h) (Or.inl ⟨by kernel_rfl, fun w9 hw9 => by (go_simp)⟩) hHeld ?_
  try simp only [Act.put, List.setIfInBounds_toArray, List.set_cons_zero, List.set_cons_succ]
  refine take_d (i := 2) (v := (.pointer (some ⟨g, 0, none⟩))) (d := some 38) rfl (by kernel_rfl) (by kernel_rfl) (by kernel_rfl) (by kernel_rfl) (fun _ _ _ h => h) (Or.inl ⟨by kernel_rfl, fun w9 hw9 => by (go_simp)⟩) hHeld ?_
  try simp only [Act.put, List.setIfInBounds_toArray, List.set_cons_zero, List.set_cons_succ]
  refine take_d (i := 3) (v := (.pointer (some ⟨g, 3, none⟩))) (d := some 39) rfl (by kernel_rfl) (by kernel_rfl) (by kernel_rfl) (by kernel_rfl) (fun _ _ _ h => h) (Or.inl ⟨by kernel_rfl, fun w9 hw9 => by (go_simp)⟩) hHeld ?_
  try simp only [Act.put, List.setIfInBounds_toArray, List.set_cons_zero, List.set_cons_succ]
  refine take_d (i := 5) (v := (.pointer (some ⟨w.heap.size, 1, none⟩))) (d := some 41) rfl (by kernel_rfl) (by kernel_rfl) (by kernel_rfl) (by kernel_rfl) (fun _ _ _ h => h) (Or.inl ⟨by kernel_rfl, fun w9 hw9 => by (go_simp)⟩) hHeld ?_
  try simp only [Act.put, List.setIfInBounds_toArray, List.set_cons_zero, List.set_cons_succ]
  refine take_d (i := 6) (v := (.int .i64 k)) (d := some 42) rfl (by kernel_rfl) (by kernel_rfl) (by kernel_rfl) (by kernel_rfl) (fun _ _ _ h => h) (Or.inl ⟨by kernel_rfl, fun w9 hw9 => by (obtain ⟨y0, y1, y2⟩ := hw9; go_simp)⟩) hHeld ?_
  try simp only [Act.put, List.setIfInBounds_toArray, List.set_cons_zero, List.set_cons_succ]
  refine take_d (i := 7) (v := (.pointer (some ⟨w.heap.size, 0, none⟩))) (d := some 43) rfl (by kernel_rfl) (by kernel_rfl) (by kernel_rfl) (by kernel_rfl) (fun _ _ _ h => h) (Or.inl ⟨by kernel_rfl, fun w9 hw9 => by (go_simp)⟩) hHeld ?_
  try simp only [Act.put, List.setIfInBounds_toArray, List.set_cons_zero, List.set_cons_succ]
  refine take_d (i := 8) (v := (.int .i64 i)) (d := some 44) rfl (by kernel_rfl) (by kernel_rfl) (by kernel_rfl) (by kernel_rfl) (fun _ _ _ h => h) (Or.inl ⟨by kernel_rfl, fun w9 hw9 => by (obtain ⟨y0, y1, y2⟩ := hw9; go_simp)⟩) hHeld ?_
  try simp only [Act.put, List.setIfInBounds_toArray, List.set_cons_zero, List.set_cons_succ]
  refine take_d (i := 9) (v := (.pointer (some ⟨w.heap.size, 5, none⟩))) (d := some 45) rfl (by kernel_rfl) (by kernel_rfl) (by kernel_rfl) (by kernel_rfl) (fun _ _ _ h => h) (Or.inl ⟨by kernel_rfl, fun w9 hw9 => by (go_simp)⟩) hHeld ?_
  try simp only [Act.put, List.setIfInBounds_toArray, List.set_cons_zero, List.set_cons_succ]
  refine take_d (i := 10) (v := (.int .i64 lt)) (d := some 46) rfl (by kernel_rfl) (by kernel_rfl) (by kernel_rfl) (by kernel_rfl) (fun _ _ _ h => h) (Or.inl ⟨by kernel_rfl, fun w9 hw9 => by (obtain ⟨y0, y1, y2⟩ := hw9; go_simp)⟩) hHeld ?_
  try simp only [Act.put, List.setIfInBounds_toArray, List.set_cons_zero, List.set_cons_succ]
  refine take_d (i := 11) (v := (.int .i64 v)) (d := some 47) rfl (by kernel_rfl) (by kernel_rfl) (by kernel_rfl) (by kernel_rfl) (fun _ _ _ h => h) (Or.inl ⟨by kernel_rfl, fun w9 hw9 => by (go_simp)⟩) hHeld ?_
  try simp only [Act.put, List.setIfInBounds_toArray, List.set_cons_zero, List.set_cons_succ]
  refine take_d (i := 12) (v := (.int .i64 v)) (d := some 48) rfl (by kernel_rfl) (by kernel_rfl) (by kernel_rfl) (by kernel_rfl) (fun _ _ _ h => h) (Or.inl ⟨by kernel_rfl, fun w9 hw9 => by (go_simp)⟩) hHeld ?_
  try simp only [Act.put, List.setIfInBounds_toArray, List.set_cons_zero, List.set_cons_succ]
  refine take_d (i := 13) (v := (.agg #[.int .i64 k, .int .i64 i, .bool true, .int .i64 lt, .int .i64 v, .int .i64 v])) (d := some 49) rfl (by kernel_rfl) (by kernel_rfl) (by kernel_rfl) (by kernel_rfl) (fun _ _ _ h => h) (Or.inl ⟨by kernel_rfl, fun w9 hw9 => by (go_simp)⟩) hHeld ?_
  try simp only [Act.put, List.setIfInBounds_toArray, List.set_cons_zero, List.set_cons_succ]
  try simp only [Act.put, List.setIfInBounds_toArray, List.set_cons_zero, List.set_cons_succ]
  refine wpAnyH_ready (rs := [4, 14]) (by kernel_rfl) (by simp) ?_
  refine AllReadyH.cons rfl (fun K hK => ?_) (AllReadyH.cons rfl (fun K hK => ?_) AllReadyH.nil)
  · go_simp
    refine hK.out _ _ (hHeld) (fun hHeld2 => ?_)
    clear hK K hHeld
    have hHeld := hHeld2
    clear hHeld2
    try simp only [Act.put, List.setIfInBounds_toArray, List.set_cons_zero, List.set_cons_succ]
    try simp only [Act.put, List.setIfInBounds_toArray, List.set_cons_zero, List.set_cons_succ]
    refine wpAnyH_ready (rs := [14]) (by kernel_rfl) (by simp) ?_
    refine AllReadyH.cons rfl (fun K hK => ?_) AllReadyH.nil
    go_simp
    refine hK.out _ _ (KP.out _ hB4) (fun hHeld2 => ?_)
    clear hK K hHeld
    have hHeld := hHeld2
    clear hHeld2
    try simp only [Act.put, List.setIfInBounds_toArray, List.set_cons_zero, List.set_cons_succ]
    try simp only [Act.put, List.setIfInBounds_toArray, List.set_cons_zero, List.set_cons_succ]
    refine wpAnyH_ready (rs := [15]) (by kernel_rfl) (by simp) ?_
    refine AllReadyH.cons rfl (fun K hK => ?_) AllReadyH.nil
    refine step_append_lies _ rfl _ _ 53 rfl B 87 i0 (.agg #[.int .i64 0, .int .i64 0, .bool false, .int .i64 0, .int .i64 0, .int .i64 0]) 6 48 Tryd.underlying53 hi hz0 hz1 hz2 rfl (by decide) (.slice A us.length c) us.length (us.flatMap RLetter.cells) (by simp [Act.eval, Act.put]) (HRow.out.alloc _) ⟨w3.heap.size, 0, none⟩ 1 1 (RLetter.cells ⟨k, i, true, lt, v, v⟩) (by simp [Act.eval, Act.put]) rfl (by exact cell_newAt w3 (RLetter.cells ⟨k, i, true, lt, v, v⟩) _ _ rfl) (letter_one _) (by decide) B2.out B3.out (by have := B0.out; simp; omega) _ rfl ?_
    intro gg cap w5 ho5 hg5 hgg hlt5
    refine hK.out _ _ (KG.out _ _ hB4 hg5) (fun hHeld2 => ?_)
    clear hK K hHeld
    have hHeld := hHeld2
    clear hHeld2
    change wpAnyH _ _ _ _ _ _ _ (Act.put _ (some 51) _) _
    try simp only [Act.put, List.setIfInBounds_toArray, List.set_cons_zero, List.set_cons_succ]
    have hz5 := hg5.size
    have hc5 := KN.out _ _ hB4 hg5
    obtain ⟨u3, u4⟩ := hc5
    refine take_d (i := 16) (v := (.pointer (some ⟨g, 0, none⟩))) (d := some 52) rfl (by kernel_rfl) (by kernel_rfl) (by kernel_rfl) (by kernel_rfl) (fun _ _ _ h => h) (Or.inl ⟨by kernel_rfl, fun w9 hw9 => by (go_simp)⟩) hHeld ?_
    try simp only [Act.put, List.setIfInBounds_toArray, List.set_cons_zero, List.set_cons_succ]
    refine take_d (i := 17) (v := (.pointer (some ⟨g, 3, none⟩))) (d := some 53) rfl (by kernel_rfl) (by kernel_rfl) (by kernel_rfl) (by kernel_rfl) (fun _ _ _ h => h) (Or.inl ⟨by kernel_rfl, fun w9 hw9 => by (go_simp)⟩) hHeld ?_
    try simp only [Act.put, List.setIfInBounds_toArray, List.set_cons_zero, List.set_cons_succ]
    try simp only [Act.put, List.setIfInBounds_toArray, List.set_cons_zero, List.set_cons_succ]
    refine wpAnyH_ready (rs := [18]) (by kernel_rfl) (by simp) ?_
    refine AllReadyH.cons rfl (fun K hK => ?_) AllReadyH.nil
    go_simp
    refine hK.out _ _ (KS.out _ _ hHeld) (fun hHeld2 => ?_)
    clear hK K hHeld
    have hHeld := hHeld2
    clear hHeld2
    try simp only [Act.put, List.setIfInBounds_toArray, List.set_cons_zero, List.set_cons_succ]
    refine wpAnyH_done (by kernel_rfl) ?_ _
    try simp only [Act.put, List.setIfInBounds_toArray, List.set_cons_zero, List.set_cons_succ]
    go_wp2_with fail
    go_ret
    exact ⟨rfl, sent_done HU.out (HBh.out.trans (hB4.mono HZ3)) hg5 hgg ho5 hl HOk.out⟩
  · go_simp
    refine hK.out _ _ (KP.out _ hB4) (fun hHeld2 => ?_)
    clear hK K hHeld
    have hHeld := hHeld2
    clear hHeld2
    try simp only [Act.put, List.setIfInBounds_toArray, List.set_cons_zero, List.set_cons_succ]
    try simp only [Act.put, List.setIfInBounds_toArray, List.set_cons_zero, List.set_cons_succ]
    refine wpAnyH_ready (rs := [4]) (by kernel_rfl) (by simp) ?_
    refine AllReadyH.cons rfl (fun K hK => ?_) AllReadyH.nil
    go_simp
    refine hK.out _ _ (hHeld) (fun hHeld2 => ?_)
    clear hK K hHeld
    have hHeld := hHeld2
    clear hHeld2
    try simp only [Act.put, List.setIfInBounds_toArray, List.set_cons_zero, List.set_cons_succ]
    try simp only [Act.put, List.setIfInBounds_toArray, List.set_cons_zero, List.set_cons_succ]
    refine wpAnyH_ready (rs := [15]) (by kernel_rfl) (by simp) ?_
    refine AllReadyH.cons rfl (fun K hK => ?_) AllReadyH.nil
    refine step_append_lies _ rfl _ _ 53 rfl B 87 i0 (.agg #[.int .i64 0, .int .i64 0, .bool false, .int .i64 0, .int .i64 0, .int .i64 0]) 6 48 Tryd.underlying53 hi hz0 hz1 hz2 rfl (by decide) (.slice A us.length c) us.length (us.flatMap RLetter.cells) (by simp [Act.eval, Act.put]) (HRow.out.alloc _) ⟨w3.heap.size, 0, none⟩ 1 1 (RLetter.cells ⟨k, i, true, lt, v, v⟩) (by simp [Act.eval, Act.put]) rfl (by exact cell_newAt w3 (RLetter.cells ⟨k, i, true, lt, v, v⟩) _ _ rfl) (letter_one _) (by decide) B2.out B3.out (by have := B0.out; simp; omega) _ rfl ?_
    intro gg cap w5 ho5 hg5 hgg hlt5
    refine hK.out _ _ (KG.out _ _ hB4 hg5) (fun hHeld2 => ?_)
    clear hK K hHeld
    have hHeld := hHeld2
    clear hHeld2
    change wpAnyH _ _ _ _ _ _ _ (Act.put _ (some 51) _) _
    try simp only [Act.put, List.setIfInBounds_toArray, List.set_cons_zero, List.set_cons_succ]
    have hz5 := hg5.size
    have hc5 := KN.out _ _ hB4 hg5
    obtain ⟨u3, u4⟩ := hc5
    refine take_d (i := 16) (v := (.pointer (some ⟨g, 0, none⟩))) (d := some 52) rfl (by kernel_rfl) (by kernel_rfl) (by kernel_rfl) (by kernel_rfl) (fun _ _ _ h => h) (Or.inl ⟨by kernel_rfl, fun w9 hw9 => by (go_simp)⟩) hHeld ?_
    try simp only [Act.put, List.setIfInBounds_toArray, List.set_cons_zero, List.set_cons_succ]
    refine take_d (i := 17) (v := (.pointer (some ⟨g, 3, none⟩))) (d := some 53) rfl (by kernel_rfl) (by kernel_rfl) (by kernel_rfl) (by kernel_rfl) (fun _ _ _ h => h) (Or.inl ⟨by kernel_rfl, fun w9 hw9 => by (go_simp)⟩) hHeld ?_
    try simp only [Act.put, List.setIfInBounds_toArray, List.set_cons_zero, List.set_cons_succ]
    try simp only [Act.put, List.setIfInBounds_toArray, List.set_cons_zero, List.set_cons_succ]
    refine wpAnyH_ready (rs := [18]) (by kernel_rfl) (by simp) ?_
    refine AllReadyH.cons rfl (fun K hK => ?_) AllReadyH.nil
    go_simp
    refine hK.out _ _ (KS.out _ _ hHeld) (fun hHeld2 => ?_)
    clear hK K hHeld
    have hHeld := hHeld2
    clear hHeld2
    try simp only [Act.put, List.setIfInBounds_toArray, List.set_cons_zero, List.set_cons_succ]
    refine wpAnyH_done (by kernel_rfl) ?_ _
    try simp only [Act.put, List.setIfInBounds_toArray, List.set_cons_zero, List.set_cons_succ]
    go_wp2_with fail
    go_ret
    exact ⟨rfl, sent_done HU.out (HBh.out.trans (hB4.mono HZ3)) hg5 hgg ho5 hl HOk.out⟩
set_option maxRecDepth 100000 in
set_option maxHeartbeats 4000000 in
theorem world_Answer_yes (g : Nat) (a b t1 t2 lt : Int) (w : World) :
    Calls Tryd.prog 28 #[.pointer (some ⟨g, 0, none⟩), .agg #[.int .i64 a, .int .i64 b, .bool true, .int .i64 t1, .int .i64 t2, .int .i64 lt]] w fun e w' => e = .returned (.iface 75 (.int .i64 3)) ∧ Below w.heap.size w w' := by
  go_enter Tryd.func28, Tryd.ntmps28
  go_wp2_with fail
  go_ret
  exact ⟨rfl, (by repeat (first | with_reducible exact Below.refl _ _ | (with_reducible refine Below.alloc ?_ (by first | omega | (simp; done) | (simp; omega)) _) | (with_reducible refine Below.setCell ?_ (by first | omega | (simp; done) | (simp; omega)) _) | (with_reducible refine Below.drew ?_) | (with_reducible refine below_drewN ?_ _) | (with_reducible assumption) | (with_reducible refine bel_step (by with_reducible assumption) ?_ (by first | omega | (simp; done) | (simp; omega)))))⟩
set_option maxRecDepth 100000 in
set_option maxHeartbeats 4000000 in
theorem world_Answer_no (g B n : Nat) (ss rs : List Int) (t : Int) (uv : Value) (us : List RLetter) (a b t1 t2 lt : Int) (w : World) (h : WorldU w g B n ss rs t uv us) (h0 : hasN n a = false ∨ hasN n b = false) :
    Calls Tryd.prog 28 #[.pointer (some ⟨g, 0, none⟩), .agg #[.int .i64 a, .int .i64 b, .bool false, .int .i64 t1, .int .i64 t2, .int .i64 lt]] w fun e w' => e = .returned (.iface 75 (.int .i64 1)) ∧ Below w.heap.size w w' := by
  have CH := Lib.hid (fun (j : Int) w' (hb : Below w.heap.size w w') => world_has g n ss rs t uv j w' (h.at.below hb))
  clear h
  have hd : hasN n a = false ∨ (hasN n a = true ∧ hasN n b = false) := by
    cases h1 : hasN n a
    · exact .inl rfl
    · rw [h1] at h0; rcases h0 with h | h
      · cases h
      · exact .inr ⟨rfl, h⟩
  clear h0
  have C2 := Lib.hid (fun (q : Bool) (hq : hasN n b = q) w' hb => by have := CH.out b w' hb; rw [hq] at this; exact this)
  rcases hd with d1 | ⟨d1, d2⟩
  · have C1 := Lib.hid (fun w' hb => by have := CH.out a w' hb; rw [d1] at this; exact this)
    as_aux_lemma =>
      go_enter Tryd.func28, Tryd.ntmps28
      go_wp2_with fail
      refine (C1.out _ (by repeat (first | with_reducible exact Below.refl _ _ | (with_reducible refine Below.alloc ?_ (by first | omega | (simp; done) | (simp; omega)) _) | (with_reducible refine Below.setCell ?_ (by first | omega | (simp; done) | (simp; omega)) _) | (with_reducible refine Below.drew ?_) | (with_reducible refine below_drewN ?_ _) | (with_reducible assumption) | (with_reducible refine bel_step (by with_reducible assumption) ?_ (by first | omega | (simp; done) | (simp; omega)))))).mono ?_
      rintro e w1 ⟨rfl, hb1⟩
      have hz1 := hb1.size
      (try simp at hz1)
      have HB1 : Below w.heap.size w w1 := (by repeat (first | with_reducible exact Below.refl _ _ | (with_reducible refine Below.alloc ?_ (by first | omega | (simp; done) | (simp; omega)) _) | (with_reducible refine Below.setCell ?_ (by first | omega | (simp; done) | (simp; omega)) _) | (with_reducible refine Below.drew ?_) | (with_reducible refine below_drewN ?_ _) | (with_reducible assumption) | (with_reducible refine bel_step (by with_reducible assumption) ?_ (by first | omega | (simp; done) | (simp; omega)))))
      have HZ1 := HB1.size
      clear hb1 hz1
      go_wp2_with fail
      go_ret
      exact ⟨rfl, HB1⟩
  · have C1 := Lib.hid (fun w' hb => by have := CH.out a w' hb; rw [d1] at this; exact this)
    have C3 := Lib.hid (C2.out false d2)
    as_aux_lemma =>
      go_enter Tryd.func28, Tryd.ntmps28
      go_wp2_with fail
      refine (C1.out _ (by repeat (first | with_reducible exact Below.refl _ _ | (with_reducible refine Below.alloc ?_ (by first | omega | (simp; done) | (simp; omega)) _) | (with_reducible refine Below.setCell ?_ (by first | omega | (simp; done) | (simp; omega)) _) | (with_reducible refine Below.drew ?_) | (with_reducible refine below_drewN ?_ _) | (with_reducible assumption) | (with_reducible refine bel_step (by with_reducible assumption) ?_ (by first | omega | (simp; done) | (simp; omega)))))).mono ?_
      rintro e w1 ⟨rfl, hb1⟩
      have hz1 := hb1.size
      (try simp at hz1)
      have agx : w.heap.size ≤ w.heap.size := by first | omega | (simp; done) | (simp; omega)
      have bx1 : Blk w1 (w.heap.size) 87 #[.int .i64 a, .int .i64 b, .bool false, .int .i64 t1, .int .i64 t2, .int .i64 lt] := (by refine BlkG.start ?_; (repeat (first | ((with_reducible apply BlkG.done); (with_reducible assumption); exact rfl) | (with_reducible exact BlkG.newAt (by first | (with_reducible rfl) | omega | (simp; done) | (simp; omega)) rfl) | (with_reducible refine BlkG.drew ?_) | (with_reducible refine BlkG.drewN ?_) | (with_reducible refine BlkG.set ?_) | (with_reducible refine BlkG.far (by first | omega | (simp; done) | (simp; omega)) ?_) | (with_reducible refine BlkG.alloc ?_) | (with_reducible refine BlkG.bel (by with_reducible assumption) (by first | omega | (simp; done) | (simp; omega)) ?_))))
      have cx1_0 : w1.cell? ⟨w.heap.size, 0, none⟩ = some (.int .i64 a) := bx1.cell 0
      have fx1_0 : w1.frozen? ⟨w.heap.size, 0, none⟩ = false := bx1.fz 0
      have cx1_1 : w1.cell? ⟨w.heap.size, 1, none⟩ = some (.int .i64 b) := bx1.cell 1
      have fx1_1 : w1.frozen? ⟨w.heap.size, 1, none⟩ = false := bx1.fz 1
      have cx1_2 : w1.cell? ⟨w.heap.size, 2, none⟩ = some (.bool false) := bx1.cell 2
      have fx1_2 : w1.frozen? ⟨w.heap.size, 2, none⟩ = false := bx1.fz 2
      have cx1_3 : w1.cell? ⟨w.heap.size, 3, none⟩ = some (.int .i64 t1) := bx1.cell 3
      have fx1_3 : w1.frozen? ⟨w.heap.size, 3, none⟩ = false := bx1.fz 3
      have cx1_4 : w1.cell? ⟨w.heap.size, 4, none⟩ = some (.int .i64 t2) := bx1.cell 4
      have fx1_4 : w1.frozen? ⟨w.heap.size, 4, none⟩ = false := bx1.fz 4
      have cx1_5 : w1.cell? ⟨w.heap.size, 5, none⟩ = some (.int .i64 lt) := bx1.cell 5
      have fx1_5 : w1.frozen? ⟨w.heap.size, 5, none⟩ = false := bx1.fz 5
      have lx1 : w.heap.size < w1.heap.size := bx1.lt
      have HB1 : Below w.heap.size w w1 := (by repeat (first | with_reducible exact Below.refl _ _ | (with_reducible refine Below.alloc ?_ (by first | omega | (simp; done) | (simp; omega)) _) | (with_reducible refine Below.setCell ?_ (by first | omega | (simp; done) | (simp; omega)) _) | (with_reducible refine Below.drew ?_) | (with_reducible refine below_drewN ?_ _) | (with_reducible assumption) | (with_reducible refine bel_step (by with_reducible assumption) ?_ (by first | omega | (simp; done) | (simp; omega)))))
      have HZ1 := HB1.size
      clear hb1 hz1
      go_wp2_with fail
      refine (C3.out _ (by repeat (first | with_reducible exact Below.refl _ _ | (with_reducible refine Below.alloc ?_ (by first | omega | (simp; done) | (simp; omega)) _) | (with_reducible refine Below.setCell ?_ (by first | omega | (simp; done) | (simp; omega)) _) | (with_reducible refine Below.drew ?_) | (with_reducible refine below_drewN ?_ _) | (with_reducible assumption) | (with_reducible refine bel_step (by with_reducible assumption) ?_ (by first | omega | (simp; done) | (simp; omega)))))).mono ?_
      rintro e w2 ⟨rfl, hb2⟩
      have hz2 := hb2.size
      (try simp at hz2)
      have bx2 : Blk w2 (w.heap.size) 87 #[.int .i64 a, .int .i64 b, .bool false, .int .i64 t1, .int .i64 t2, .int .i64 lt] := (by refine BlkG.start ?_; (repeat (first | ((with_reducible apply BlkG.done); (with_reducible assumption); exact rfl) | (with_reducible exact BlkG.newAt (by first | (with_reducible rfl) | omega | (simp; done) | (simp; omega)) rfl) | (with_reducible refine BlkG.drew ?_) | (with_reducible refine BlkG.drewN ?_) | (with_reducible refine BlkG.set ?_) | (with_reducible refine BlkG.far (by first | omega | (simp; done) | (simp; omega)) ?_) | (with_reducible refine BlkG.alloc ?_) | (with_reducible refine BlkG.bel (by with_reducible assumption) (by first | omega | (simp; done) | (simp; omega)) ?_))))
      have cx2_0 : w2.cell? ⟨w.heap.size, 0, none⟩ = some (.int .i64 a) := bx2.cell 0
      have fx2_0 : w2.frozen? ⟨w.heap.size, 0, none⟩ = false := bx2.fz 0
      have cx2_1 : w2.cell? ⟨w.heap.size, 1, none⟩ = some (.int .i64 b) := bx2.cell 1
      have fx2_1 : w2.frozen? ⟨w.heap.size, 1, none⟩ = false := bx2.fz 1
      have cx2_2 : w2.cell? ⟨w.heap.size, 2, none⟩ = some (.bool false) := bx2.cell 2
      have fx2_2 : w2.frozen? ⟨w.heap.size, 2, none⟩ = false := bx2.fz 2
      have cx2_3 : w2.cell? ⟨w.heap.size, 3, none⟩ = some (.int .i64 t1) := bx2.cell 3
      have fx2_3 : w2.frozen? ⟨w.heap.size, 3, none⟩ = false := bx2.fz 3
      have cx2_4 : w2.cell? ⟨w.heap.size, 4, none⟩ = some (.int .i64 t2) := bx2.cell 4
      have fx2_4 : w2.frozen? ⟨w.heap.size, 4, none⟩ = false := bx2.fz 4
      have cx2_5 : w2.cell? ⟨w.heap.size, 5, none⟩ = some (.int .i64 lt) := bx2.cell 5
      have fx2_5 : w2.frozen? ⟨w.heap.size, 5, none⟩ = false := bx2.fz 5
      have lx2 : w.heap.size < w2.heap.size := bx2.lt
      have HB2 : Below w.heap.size w w2 := (by repeat (first | with_reducible exact Below.refl _ _ | (with_reducible refine Below.alloc ?_ (by first | omega | (simp; done) | (simp; omega)) _) | (with_reducible refine Below.setCell ?_ (by first | omega | (simp; done) | (simp; omega)) _) | (with_reducible refine Below.drew ?_) | (with_reducible refine below_drewN ?_ _) | (with_reducible assumption) | (with_reducible refine bel_step (by with_reducible assumption) ?_ (by first | omega | (simp; done) | (simp; omega)))))
      have HZ2 := HB2.size
      clear hb2 hz2 HB1 HZ1 bx1 lx1 cx1_0 fx1_0 cx1_1 fx1_1 cx1_2 fx1_2 cx1_3 fx1_3 cx1_4 fx1_4 cx1_5 fx1_5 
      go_wp2_with fail
      go_ret
      exact ⟨rfl, HB2⟩
set_option maxRecDepth 100000 in
set_option maxHeartbeats 4000000 in
theorem world_Answer_full (g B n : Nat) (ss rs : List Int) (t : Int) (uv : Value) (us : List RLetter) (a b t1 t2 lt : Int) (w : World) (h : WorldU w g B n ss rs t uv us) (h1 : hasN n a = true) (h2 : hasN n b = true) (hl : 40 ≤ us.length) :
    Calls Tryd.prog 28 #[.pointer (some ⟨g, 0, none⟩), .agg #[.int .i64 a, .int .i64 b, .bool false, .int .i64 t1, .int .i64 t2, .int .i64 lt]] w fun e w' => e = .returned (.iface 75 (.int .i64 4)) ∧ Below w.heap.size w w' := by
  have C1 := Lib.hid (fun w' (hb : Below w.heap.size w w') => by have := world_has g n ss rs t uv a w' (h.at.below hb); rw [h1] at this; exact this)
  have C2 := Lib.hid (fun w' (hb : Below w.heap.size w w') => by have := world_has g n ss rs t uv b w' (h.at.below hb); rw [h2] at this; exact this)
  obtain ⟨A, c, rfl, hAc, hcm⟩ := own_slice h.row
  unfold maxLen at hcm
  have HG := Lib.hid (fun w' (hb : Below w.heap.size w w') => show w'.cell? ⟨g, 3, none⟩ = some (.slice A us.length c) from by
    obtain ⟨gs, cs, gr, cr, k1, _⟩ := (h.below hb).ex
    rw [k1.cell]; rfl)
  have hgw := Nat.lt_of_lt_of_le h.gB h.Bw
  have g1 : (40 : Int) ≤ (us.length : Int) := by omega
  clear h h1 h2
  go_enter Tryd.func28, Tryd.ntmps28
  go_wp2_with fail
  refine (C1.out _ (by repeat (first | with_reducible exact Below.refl _ _ | (with_reducible refine Below.alloc ?_ (by first | omega | (simp; done) | (simp; omega)) _) | (with_reducible refine Below.setCell ?_ (by first | omega | (simp; done) | (simp; omega)) _) | (with_reducible refine Below.drew ?_) | (with_reducible refine below_drewN ?_ _) | (with_reducible assumption) | (with_reducible refine bel_step (by with_reducible assumption) ?_ (by first | omega | (simp; done) | (simp; omega)))))).mono ?_
  rintro e w1 ⟨rfl, hb1⟩
  have hz1 := hb1.size
  (try simp at hz1)
  have agx : w.heap.size ≤ w.heap.size := by first | omega | (simp; done) | (simp; omega)
  have bx1 : Blk w1 (w.heap.size) 87 #[.int .i64 a, .int .i64 b, .bool false, .int .i64 t1, .int .i64 t2, .int .i64 lt] := (by refine BlkG.start ?_; (repeat (first | ((with_reducible apply BlkG.done); (with_reducible assumption); exact rfl) | (with_reducible exact BlkG.newAt (by first | (with_reducible rfl) | omega | (simp; done) | (simp; omega)) rfl) | (with_reducible refine BlkG.drew ?_) | (with_reducible refine BlkG.drewN ?_) | (with_reducible refine BlkG.set ?_) | (with_reducible refine BlkG.far (by first | omega | (simp; done) | (simp; omega)) ?_) | (with_reducible refine BlkG.alloc ?_) | (with_reducible refine BlkG.bel (by with_reducible assumption) (by first | omega | (simp; done) | (simp; omega)) ?_))))
  have cx1_0 : w1.cell? ⟨w.heap.size, 0, none⟩ = some (.int .i64 a) := bx1.cell 0
  have fx1_0 : w1.frozen? ⟨w.heap.size, 0, none⟩ = false := bx1.fz 0
  have cx1_1 : w1.cell? ⟨w.heap.size, 1, none⟩ = some (.int .i64 b) := bx1.cell 1
  have fx1_1 : w1.frozen? ⟨w.heap.size, 1, none⟩ = false := bx1.fz 1
  have cx1_2 : w1.cell? ⟨w.heap.size, 2, none⟩ = some (.bool false) := bx1.cell 2
  have fx1_2 : w1.frozen? ⟨w.heap.size, 2, none⟩ = false := bx1.fz 2
  have cx1_3 : w1.cell? ⟨w.heap.size, 3, none⟩ = some (.int .i64 t1) := bx1.cell 3
  have fx1_3 : w1.frozen? ⟨w.heap.size, 3, none⟩ = false := bx1.fz 3
  have cx1_4 : w1.cell? ⟨w.heap.size, 4, none⟩ = some (.int .i64 t2) := bx1.cell 4
  have fx1_4 : w1.frozen? ⟨w.heap.size, 4, none⟩ = false := bx1.fz 4
  have cx1_5 : w1.cell? ⟨w.heap.size, 5, none⟩ = some (.int .i64 lt) := bx1.cell 5
  have fx1_5 : w1.frozen? ⟨w.heap.size, 5, none⟩ = false := bx1.fz 5
  have lx1 : w.heap.size < w1.heap.size := bx1.lt
  have HB1 : Below w.heap.size w w1 := (by repeat (first | with_reducible exact Below.refl _ _ | (with_reducible refine Below.alloc ?_ (by first | omega | (simp; done) | (simp; omega)) _) | (with_reducible refine Below.setCell ?_ (by first | omega | (simp; done) | (simp; omega)) _) | (with_reducible refine Below.drew ?_) | (with_reducible refine below_drewN ?_ _) | (with_reducible assumption) | (with_reducible refine bel_step (by with_reducible assumption) ?_ (by first | omega | (simp; done) | (simp; omega)))))
  have HZ1 := HB1.size
  clear hb1 hz1
  go_wp2_with fail
  refine (C2.out _ (by repeat (first | with_reducible exact Below.refl _ _ | (with_reducible refine Below.alloc ?_ (by first | omega | (simp; done) | (simp; omega)) _) | (with_reducible refine Below.setCell ?_ (by first | omega | (simp; done) | (simp; omega)) _) | (with_reducible refine Below.drew ?_) | (with_reducible refine below_drewN ?_ _) | (with_reducible assumption) | (with_reducible refine bel_step (by with_reducible assumption) ?_ (by first | omega | (simp; done) | (simp; omega)))))).mono ?_
  rintro e w2 ⟨rfl, hb2⟩
  have hz2 := hb2.size
  (try simp at hz2)
  have bx2 : Blk w2 (w.heap.size) 87 #[.int .i64 a, .int .i64 b, .bool false, .int .i64 t1, .int .i64 t2, .int .i64 lt] := (by refine BlkG.start ?_; (repeat (first | ((with_reducible apply BlkG.done); (with_reducible assumption); exact rfl) | (with_reducible exact BlkG.newAt (by first | (with_reducible rfl) | omega | (simp; done) | (simp; omega)) rfl) | (with_reducible refine BlkG.drew ?_) | (with_reducible refine BlkG.drewN ?_) | (with_reducible refine BlkG.set ?_) | (with_reducible refine BlkG.far (by first | omega | (simp; done) | (simp; omega)) ?_) | (with_reducible refine BlkG.alloc ?_) | (with_reducible refine BlkG.bel (by with_reducible assumption) (by first | omega | (simp; done) | (simp; omega)) ?_))))
  have cx2_0 : w2.cell? ⟨w.heap.size, 0, none⟩ = some (.int .i64 a) := bx2.cell 0
  have fx2_0 : w2.frozen? ⟨w.heap.size, 0, none⟩ = false := bx2.fz 0
  have cx2_1 : w2.cell? ⟨w.heap.size, 1, none⟩ = some (.int .i64 b) := bx2.cell 1
  have fx2_1 : w2.frozen? ⟨w.heap.size, 1, none⟩ = false := bx2.fz 1
  have cx2_2 : w2.cell? ⟨w.heap.size, 2, none⟩ = some (.bool false) := bx2.cell 2
  have fx2_2 : w2.frozen? ⟨w.heap.size, 2, none⟩ = false := bx2.fz 2
  have cx2_3 : w2.cell? ⟨w.heap.size, 3, none⟩ = some (.int .i64 t1) := bx2.cell 3
  have fx2_3 : w2.frozen? ⟨w.heap.size, 3, none⟩ = false := bx2.fz 3
  have cx2_4 : w2.cell? ⟨w.heap.size, 4, none⟩ = some (.int .i64 t2) := bx2.cell 4
  have fx2_4 : w2.frozen? ⟨w.heap.size, 4, none⟩ = false := bx2.fz 4
  have cx2_5 : w2.cell? ⟨w.heap.size, 5, none⟩ = some (.int .i64 lt) := bx2.cell 5
  have fx2_5 : w2.frozen? ⟨w.heap.size, 5, none⟩ = false := bx2.fz 5
  have lx2 : w.heap.size < w2.heap.size := bx2.lt
  have HB2 : Below w.heap.size w w2 := (by repeat (first | with_reducible exact Below.refl _ _ | (with_reducible refine Below.alloc ?_ (by first | omega | (simp; done) | (simp; omega)) _) | (with_reducible refine Below.setCell ?_ (by first | omega | (simp; done) | (simp; omega)) _) | (with_reducible refine Below.drew ?_) | (with_reducible refine below_drewN ?_ _) | (with_reducible assumption) | (with_reducible refine bel_step (by with_reducible assumption) ?_ (by first | omega | (simp; done) | (simp; omega)))))
  have HZ2 := HB2.size
  clear hb2 hz2 HB1 HZ1 bx1 lx1 cx1_0 fx1_0 cx1_1 fx1_1 cx1_2 fx1_2 cx1_3 fx1_3 cx1_4 fx1_4 cx1_5 fx1_5 
  have y0 := HG.out w2 HB2
  clear C1 C2
  go_wp2_with fail
  go_ret
  exact ⟨rfl, HB2⟩
end Go.Proofs.YtmficdfihogffaaDoor

/- Edges checked, by the program and by the reference, walked. -/
namespace Go.Proofs.YtmficdfihogffaaDoor
open Go.RowKit
set_option linter.unusedVariables false
set_option linter.unusedSimpArgs false
theorem Node_any (n i : Int) (w : World) : Calls Tryd.prog 33 #[.int .i64 n, .int .i64 i] w fun e w' => e = .returned (.bool (nodeB n i)) ∧ w = w' := by
  go_enter Tryd.func33, Tryd.ntmps33
  go_wp2
  all_goals
    go_ret
    exact ⟨ret_bool (by simp [nodeB]; try omega), rfl⟩
set_option maxHeartbeats 2000000 in
theorem bounds_Check (N : Int) (A : Option Addr) (n c : Nat) (zs : List REdge) (w : World) (hz : IsRecs w REdge.cells REdge.ok 4 A n c zs) :
    Calls Tryd.prog 38 #[.int .i64 N, .slice A n c] w fun e w' => e = .returned (errV (edgesC N zs)) ∧ Below w.heap.size w w' := by
  obtain ⟨l1, l2, l3, l4, l5⟩ := hz
  unfold maxLen at l3
  have L1 := Lib.hid l1
  have L5 := Lib.hid l5
  clear l4 l5
  by_cases c1 : N < 1
  · have s1 := Lib.hid (show edgesC N zs = 1 by unfold edgesC; rw [if_pos (.inl c1)])
    clear l1
    go_enter Tryd.func38, Tryd.ntmps38
    go_wp2_with fail
    go_ret
    exact ⟨by rw [s1.out]; rfl, Below.refl _ _⟩
  by_cases c2 : 6 < N
  · have s1 := Lib.hid (show edgesC N zs = 1 by unfold edgesC; rw [if_pos (.inr c2)])
    clear l1
    go_enter Tryd.func38, Tryd.ntmps38
    go_wp2_with fail
    go_ret
    exact ⟨by rw [s1.out]; rfl, Below.refl _ _⟩
  by_cases c3 : 40 < n
  · have s1 := Lib.hid (show edgesC N zs = 4 by unfold edgesC; rw [if_neg (by omega), if_pos (by omega)])
    have c4 : decide ((40 : Int) < (n : Int)) = true := by simp; omega
    clear l1
    go_enter Tryd.func38, Tryd.ntmps38
    go_wp2_with fail
    go_ret
    exact ⟨by rw [s1.out]; rfl, Below.refl _ _⟩
  have S1 := Lib.hid (show edgesC N zs = edgesGo N zs by unfold edgesC; rw [if_neg (by omega), if_neg (by omega)])
  have c4 : decide ((40 : Int) < (n : Int)) = false := by simp; omega
  clear l1
  go_enter Tryd.func38, Tryd.ntmps38
  go_wp2_with fail
  go_loopw [22] (fun kv wr => ∃ k : Nat, kv = .int .i64 k ∧ k ≤ n ∧ edgesGo N (zs.drop k) = edgesGo N zs ∧ Below w.heap.size w wr) (fun kv _ => n - (intOf kv).toNat)
  case atStart => exact ⟨0, rfl, by omega, rfl, Below.refl _ _⟩
  case round =>
    obtain ⟨k, rfl, hk, hd, hB⟩ := hrel
    have HD := Lib.hid hd
    have HB := Lib.hid hB
    have hzw := hB.size
    clear hd hB
    by_cases d1 : k < n
    · obtain ⟨b, off, rfl, hb, hc⟩ := L5.out (by omega)
      obtain ⟨z, hz⟩ : ∃ z, zs[k]? = some z := ⟨_, List.getElem?_eq_getElem (by rw [L1.out]; omega)⟩
      have x0 := (HB.out.cell (p := ⟨b, off + k * 4, none⟩) hb).trans (hc k z hz 0 _ rfl)
      have x1 := (HB.out.cell (p := ⟨b, off + k * 4 + 1, none⟩) hb).trans (hc k z hz 1 _ rfl)
      have x2 := (HB.out.cell (p := ⟨b, off + k * 4 + 2, none⟩) hb).trans (hc k z hz 2 _ rfl)
      have x3 := (HB.out.cell (p := ⟨b, off + k * 4 + 3, none⟩) hb).trans (hc k z hz 3 _ rfl)
      have HG := Lib.hid ((edgesGo_at (n := N) hz).symm.trans HD.out)
      have n2' : b < wr.heap.size := by omega
      clear hc hz
      by_cases e1 : nodeB N z.a = true
      · by_cases e2 : nodeB N z.b = true
        · by_cases e3 : z.a = z.b
          · have s1 := Lib.hid (show edgesGo N zs = 3 by rw [← HG.out, show edgeC N z = 3 by simp [edgeC, e1, e2, e3]]; rfl)
            have e4 : (z.a == z.b) = true := by simpa using e3
            clear e3
            go_wp2_with (go_at_call 33; refine (Node_any _ _ _).mono ?_; rintro e w' ⟨rfl, rfl⟩)
            go_ret
            exact ⟨by rw [S1.out, s1.out]; rfl, by have := HB.out; exact (by repeat (first | with_reducible exact Below.refl _ _ | (with_reducible refine Below.alloc ?_ (by first | omega | (simp; done) | (simp; omega)) _) | (with_reducible refine Below.setCell ?_ (by first | omega | (simp; done) | (simp; omega)) _) | (with_reducible refine Below.drew ?_) | (with_reducible refine below_drewN ?_ _) | (with_reducible assumption) | (with_reducible refine bel_step (by with_reducible assumption) ?_ (by first | omega | (simp; done) | (simp; omega)))))⟩
          · have e4 : (z.a == z.b) = false := by simpa using e3
            by_cases e5 : rightB z.lo z.hi = true
            · have s1 := Lib.hid (show edgeC N z = 0 by simp [edgeC, e1, e2, e3, e5, okC])
              have s2 := Lib.hid (show edgesGo N (zs.drop (k + 1)) = edgesGo N zs by rw [← HG.out, if_pos s1.out])
              clear e3
              go_wp2_with (first | (go_at_call 33; refine (Node_any _ _ _).mono ?_; rintro e w' ⟨rfl, rfl⟩) | (go_at_call 44; refine (Right_any _ _ _).mono ?_; rintro e w1 ⟨rfl, hb1⟩; obtain ⟨hc1, hf1⟩ := bcell hb1; have hz1 := hb1.size; (try simp at hz1); (try have q1_0_0_0 : w.heap.size < w1.heap.size := by omega); (try have q1_0_0_2 : w.heap.size < w1.heap.size + 1 + 1 := by omega); (try have q1_0_0_3 : w.heap.size < w1.heap.size + 1 + 1 + 1 := by omega); (try have q1_0_1_0 : w.heap.size + 1 < w1.heap.size := by omega); (try have q1_0_1_2 : w.heap.size + 1 < w1.heap.size + 1 + 1 := by omega); (try have q1_0_1_3 : w.heap.size + 1 < w1.heap.size + 1 + 1 + 1 := by omega); (try have q1_0_2_0 : w.heap.size + 1 + 1 < w1.heap.size := by omega); (try have q1_0_2_2 : w.heap.size + 1 + 1 < w1.heap.size + 1 + 1 := by omega); (try have q1_0_2_3 : w.heap.size + 1 + 1 < w1.heap.size + 1 + 1 + 1 := by omega); (try have q1_0_3_0 : w.heap.size + 1 + 1 + 1 < w1.heap.size := by omega); (try have q1_0_3_2 : w.heap.size + 1 + 1 + 1 < w1.heap.size + 1 + 1 := by omega); (try have q1_0_3_3 : w.heap.size + 1 + 1 + 1 < w1.heap.size + 1 + 1 + 1 := by omega)))
              go_roundw
              case rel => exact ⟨k + 1, by go_num, by omega, s2.out, by have := HB.out; exact (by repeat (first | with_reducible exact Below.refl _ _ | (with_reducible refine Below.alloc ?_ (by first | omega | (simp; done) | (simp; omega)) _) | (with_reducible refine Below.setCell ?_ (by first | omega | (simp; done) | (simp; omega)) _) | (with_reducible refine Below.drew ?_) | (with_reducible refine below_drewN ?_ _) | (with_reducible assumption) | (with_reducible refine bel_step (by with_reducible assumption) ?_ (by first | omega | (simp; done) | (simp; omega)))))⟩
              case measure => simp [intOf]; omega
            · have s1 := Lib.hid (show edgesGo N zs = 1 by rw [← HG.out, show edgeC N z = 1 by simp [edgeC, e1, e2, e3, e5, okC]]; rfl)
              have e5 : rightB z.lo z.hi = false := by simpa using e5
              clear e3
              go_wp2_with (first | (go_at_call 33; refine (Node_any _ _ _).mono ?_; rintro e w' ⟨rfl, rfl⟩) | (go_at_call 44; refine (Right_any _ _ _).mono ?_; rintro e w1 ⟨rfl, hb1⟩; obtain ⟨hc1, hf1⟩ := bcell hb1; have hz1 := hb1.size; (try simp at hz1); (try have q1_0_0_0 : w.heap.size < w1.heap.size := by omega); (try have q1_0_0_2 : w.heap.size < w1.heap.size + 1 + 1 := by omega); (try have q1_0_0_3 : w.heap.size < w1.heap.size + 1 + 1 + 1 := by omega); (try have q1_0_1_0 : w.heap.size + 1 < w1.heap.size := by omega); (try have q1_0_1_2 : w.heap.size + 1 < w1.heap.size + 1 + 1 := by omega); (try have q1_0_1_3 : w.heap.size + 1 < w1.heap.size + 1 + 1 + 1 := by omega); (try have q1_0_2_0 : w.heap.size + 1 + 1 < w1.heap.size := by omega); (try have q1_0_2_2 : w.heap.size + 1 + 1 < w1.heap.size + 1 + 1 := by omega); (try have q1_0_2_3 : w.heap.size + 1 + 1 < w1.heap.size + 1 + 1 + 1 := by omega); (try have q1_0_3_0 : w.heap.size + 1 + 1 + 1 < w1.heap.size := by omega); (try have q1_0_3_2 : w.heap.size + 1 + 1 + 1 < w1.heap.size + 1 + 1 := by omega); (try have q1_0_3_3 : w.heap.size + 1 + 1 + 1 < w1.heap.size + 1 + 1 + 1 := by omega)))
              go_ret
              exact ⟨by rw [S1.out, s1.out]; rfl, by have := HB.out; exact (by repeat (first | with_reducible exact Below.refl _ _ | (with_reducible refine Below.alloc ?_ (by first | omega | (simp; done) | (simp; omega)) _) | (with_reducible refine Below.setCell ?_ (by first | omega | (simp; done) | (simp; omega)) _) | (with_reducible refine Below.drew ?_) | (with_reducible refine below_drewN ?_ _) | (with_reducible assumption) | (with_reducible refine bel_step (by with_reducible assumption) ?_ (by first | omega | (simp; done) | (simp; omega)))))⟩
        · have s1 := Lib.hid (show edgesGo N zs = 1 by rw [← HG.out, show edgeC N z = 1 by simp [edgeC, e1, e2]]; rfl)
          have e2 : nodeB N z.b = false := by simpa using e2
          go_wp2_with (go_at_call 33; refine (Node_any _ _ _).mono ?_; rintro e w' ⟨rfl, rfl⟩)
          go_ret
          exact ⟨by rw [S1.out, s1.out]; rfl, by have := HB.out; exact (by repeat (first | with_reducible exact Below.refl _ _ | (with_reducible refine Below.alloc ?_ (by first | omega | (simp; done) | (simp; omega)) _) | (with_reducible refine Below.setCell ?_ (by first | omega | (simp; done) | (simp; omega)) _) | (with_reducible refine Below.drew ?_) | (with_reducible refine below_drewN ?_ _) | (with_reducible assumption) | (with_reducible refine bel_step (by with_reducible assumption) ?_ (by first | omega | (simp; done) | (simp; omega)))))⟩
      · have s1 := Lib.hid (show edgesGo N zs = 1 by rw [← HG.out, show edgeC N z = 1 by simp [edgeC, e1]]; rfl)
        have e1 : nodeB N z.a = false := by simpa using e1
        go_wp2_with (go_at_call 33; refine (Node_any _ _ _).mono ?_; rintro e w' ⟨rfl, rfl⟩)
        go_ret
        exact ⟨by rw [S1.out, s1.out]; rfl, by have := HB.out; exact (by repeat (first | with_reducible exact Below.refl _ _ | (with_reducible refine Below.alloc ?_ (by first | omega | (simp; done) | (simp; omega)) _) | (with_reducible refine Below.setCell ?_ (by first | omega | (simp; done) | (simp; omega)) _) | (with_reducible refine Below.drew ?_) | (with_reducible refine below_drewN ?_ _) | (with_reducible assumption) | (with_reducible refine bel_step (by with_reducible assumption) ?_ (by first | omega | (simp; done) | (simp; omega)))))⟩
    · have s1 := Lib.hid (show edgesGo N zs = 0 by rw [← HD.out]; exact edgesGo_end (by rw [L1.out]; omega))
      go_wp2_with fail
      go_ret
      exact ⟨by rw [S1.out, s1.out]; rfl, HB.out⟩
end Go.Proofs.YtmficdfihogffaaDoor

/- Package node: a node in memory; New, back, aged, walked. -/
namespace Go.Proofs.YtmficdfihogffaaDoor
open Go.RowKit
set_option linter.unusedVariables false
set_option linter.unusedSimpArgs false
/-- a node behind a pointer, and its map. -/
structure NodeAt (w : World) (g mb K : Nat) (s : NSt) : Prop where
  blk : Blk w g 121 #[.int .i64 s.id, .int .i64 s.N, .int .i64 s.p, .int .i64 s.h, .map (some mb)]
  mp : MapF 3 w mb K (fun x => (s.f x).map Kn.val)
  ne : g ≠ mb
  ok : s.Ok
def NMine (g mb : Nat) (k : Nat) : Prop := k = g ∨ k = mb
theorem NodeAt.mono {w : World} {g mb K M : Nat} {s : NSt} (h : NodeAt w g mb K s) (hm : K ≤ M) : NodeAt w g mb M s := ⟨h.blk, h.mp.mono hm, h.ne, h.ok⟩
theorem NodeAt.below {w w' : World} {g mb K : Nat} {s : NSt} (h : NodeAt w g mb K s) (hb : Below w.heap.size w w') : NodeAt w' g mb K s := ⟨h.blk.below hb h.blk.lt, h.mp.below hb h.mp.lt, h.ne, h.ok⟩
theorem MapF.block {k : TypeId} {w w' : World} {b n : Nat} {f : Int → Option Value} (h : MapF k w b n f) (hb : w'.heap[b]? = w.heap[b]?) : MapF k w' b n f := by
  obtain ⟨D, ⟨es, clock, h1, F, hs, hD⟩, h2, h3⟩ := h
  exact ⟨D, ⟨es, clock, hb.trans h1, F, hs, hD⟩, h2, h3⟩
theorem NodeAt.other {w w' : World} {g mb K : Nat} {s : NSt} {P : Nat → Prop} (h : NodeAt w g mb K s) (hk : Kept P w w') (h1 : ¬ P g) (h2 : ¬ P mb) : NodeAt w' g mb K s :=
  ⟨(hk.block g h.blk.lt h1).trans h.blk, h.mp.block (hk.block mb h.mp.lt h2), h.ne, h.ok⟩
set_option maxRecDepth 100000 in
set_option maxHeartbeats 4000000 in
theorem node_New (N id : Nat) (p : Int) (w : World) (h1 : 1 ≤ N) (h2 : N ≤ 6) (h3 : id < N) (h4 : 0 ≤ p) (h5 : p ≤ 1000) :
    Calls Tryd.prog 23 #[.int .i64 id, .int .i64 N, .int .i64 p] w fun e w' => ∃ g mb, e = .returned (.tuple #[.pointer (some ⟨g, 0, none⟩), .nilIface]) ∧ w.heap.size ≤ g ∧ w.heap.size ≤ mb ∧ NodeAt w' g mb 0 (NSt.start N id p) ∧ Below w.heap.size w w' := by
  have hok := Lib.hid (NSt.start_ok h1 h2 h3 h4 h5)
  have C1 := Lib.hid (fun w => by have := Node_any (N : Int) (id : Int) w; rw [show nodeB (N : Int) (id : Int) = true by simp [nodeB]; omega] at this; exact this)
  have C2 := Lib.hid (fun w => by have := Rate_any p w; rw [rateB_iff.2 ⟨h4, h5⟩] at this; exact this)
  have HMk := fun (w : World) => run_makeMap (P := Tryd.prog) 119 w
  have d1 : ¬ (N : Int) < 1 := by omega
  have d2 : ¬ (6 : Int) < (N : Int) := by omega
  clear h1 h2 h3 h4 h5
  go_enter Tryd.func23, Tryd.ntmps23
  go_wp2_with (first | (go_at_call 33; refine (C1.out _).mono ?_; rintro e w' ⟨rfl, rfl⟩) | (go_at_call 45; refine (C2.out _).mono ?_; rintro e w' ⟨rfl, rfl⟩))
  go_ret2
  refine ⟨w.heap.size + 1, w.heap.size, rfl, by omega, Nat.le_refl _, ⟨?_, ?_, by omega, hok.out⟩, (by repeat (first | with_reducible exact Below.refl _ _ | (with_reducible refine Below.alloc ?_ (by first | omega | (simp; done) | (simp; omega)) _) | (with_reducible refine Below.setCell ?_ (by first | omega | (simp; done) | (simp; omega)) _) | (with_reducible refine Below.drew ?_) | (with_reducible refine below_drewN ?_ _) | (with_reducible assumption) | (with_reducible refine bel_step (by with_reducible assumption) ?_ (by first | omega | (simp; done) | (simp; omega)))))⟩
  · exact Blk.newAt _ _ _ _ (by simp)
  · exact (MapF.made _ w).alloc _
set_option maxRecDepth 100000 in
set_option maxHeartbeats 4000000 in
theorem node_New_no (a b p : Int) (w : World) (h : b < 1 ∨ 6 < b ∨ nodeB b a = false ∨ rateB p = false) :
    Calls Tryd.prog 23 #[.int .i64 a, .int .i64 b, .int .i64 p] w fun e w' => e = .returned (.tuple #[.pointer none, .iface 75 (.int .i64 1)]) ∧ Below w.heap.size w w' := by
  obtain ⟨x, hx⟩ : ∃ x, nodeB b a = x := ⟨_, rfl⟩
  obtain ⟨y, hy⟩ : ∃ y, rateB p = y := ⟨_, rfl⟩
  have C1 := Lib.hid (fun w => by have := Node_any b a w; rw [hx] at this; exact this)
  have C2 := Lib.hid (fun w => by have := Rate_any p w; rw [hy] at this; exact this)
  rw [hx, hy] at h
  clear hx hy
  have hd : b < 1 ∨ (¬ b < 1 ∧ 6 < b) ∨ (¬ b < 1 ∧ ¬ 6 < b ∧ x = false) ∨ (¬ b < 1 ∧ ¬ 6 < b ∧ x = true ∧ y = false) := by
    cases x
    · by_cases b < 1 <;> by_cases 6 < b <;> simp_all
    · by_cases b < 1 <;> by_cases 6 < b <;> simp_all
  clear h
  rcases hd with d1 | ⟨d1, d2⟩ | ⟨d1, d2, rfl⟩ | ⟨d1, d2, rfl, rfl⟩
  all_goals
    go_enter Tryd.func23, Tryd.ntmps23
    go_wp2_with (first | (go_at_call 33; refine (C1.out _).mono ?_; rintro e w' ⟨rfl, rfl⟩) | (go_at_call 45; refine (C2.out _).mono ?_; rintro e w' ⟨rfl, rfl⟩))
    go_ret2
    exact ⟨rfl, (by repeat (first | with_reducible exact Below.refl _ _ | (with_reducible refine Below.alloc ?_ (by first | omega | (simp; done) | (simp; omega)) _) | (with_reducible refine Below.setCell ?_ (by first | omega | (simp; done) | (simp; omega)) _) | (with_reducible refine Below.drew ?_) | (with_reducible refine below_drewN ?_ _) | (with_reducible assumption) | (with_reducible refine bel_step (by with_reducible assumption) ?_ (by first | omega | (simp; done) | (simp; omega)))))⟩
set_option maxRecDepth 100000 in
set_option maxHeartbeats 4000000 in
theorem node_back (g mb K : Nat) (s : NSt) (here : Int) (w : World) (h : NodeAt w g mb K s) :
    Calls Tryd.prog 51 #[.pointer (some ⟨g, 0, none⟩), .int .i64 here] w fun e w' => e = .returned (.bool (s.backB here)) ∧ w = w' := by
  have c3 := h.blk.cell 3
  simp at c3
  have hd : (here < 0 ∧ s.backB here = true) ∨ (¬ here < 0 ∧ here < s.h ∧ s.backB here = true) ∨ (¬ here < 0 ∧ ¬ here < s.h ∧ 1000000000000 < here ∧ s.backB here = true) ∨ (¬ here < 0 ∧ ¬ here < s.h ∧ ¬ 1000000000000 < here ∧ s.backB here = false) := by
    unfold NSt.backB
    by_cases d1 : here < 0
    · left; exact ⟨d1, by rw [decide_eq_true d1]; rfl⟩
    · by_cases d2 : here < s.h
      · right; left; exact ⟨d1, d2, by rw [decide_eq_true d2]; simp⟩
      · by_cases d3 : 1000000000000 < here
        · right; right; left; exact ⟨d1, d2, d3, by rw [decide_eq_true d3]; simp⟩
        · right; right; right; exact ⟨d1, d2, d3, by rw [decide_eq_false d1, decide_eq_false d2, decide_eq_false d3]; rfl⟩
  clear h
  obtain ⟨q, hq⟩ : ∃ q, s.backB here = q := ⟨_, rfl⟩
  rw [hq] at hd ⊢
  clear hq
  rcases hd with ⟨d1, rfl⟩ | ⟨d1, d2, rfl⟩ | ⟨d1, d2, d3, rfl⟩ | ⟨d1, d2, d3, rfl⟩
  all_goals
    go_enter Tryd.func51, Tryd.ntmps51
    go_wp2_with fail
    go_ret
    exact ⟨rfl, rfl⟩
set_option maxRecDepth 100000 in
set_option maxHeartbeats 4000000 in
theorem node_aged (g mb K : Nat) (s : NSt) (x here : Int) (k : Kn) (w : World) (h : NodeAt w g mb K s) (hk : s.f x = some k) (hb : s.backB here = false) :
    Calls Tryd.prog 54 #[.pointer (some ⟨g, 0, none⟩), .agg #[.int .i64 k.lo, .int .i64 k.hi, .int .i64 k.at_], .int .i64 here] w fun e w' => e = .returned (.agg #[.int .i64 (ageL k s.p here), .int .i64 (ageH k s.p here)]) ∧ Below w.heap.size w w' := by
  obtain ⟨b1, b2, b3, b4, b5, b6, b7⟩ := age_bd h.ok hk hb
  have c2 := h.blk.cell 2
  have kl := h.blk.lt
  simp at c2
  have CS := Lib.hid (fun w => Slack_any (here - k.at_) s.p w b1 (by omega) h.ok.p0 h.ok.p1)
  obtain ⟨v, hv⟩ : ∃ v, slackD (here - k.at_) s.p = v := ⟨_, rfl⟩
  have HA := Lib.hid (show ageL k s.p here = k.lo - v by unfold ageL; rw [hv])
  have HH := Lib.hid (show ageH k s.p here = k.hi + v by unfold ageH; rw [hv])
  rw [hv] at CS b3 b4
  have CW := Lib.hid (fun w => span_Wider k.lo k.hi v w (by omega) (by omega) (by omega) (by omega) b3 (by omega))
  rw [HA.out, HH.out]
  have u1 := IntWalk.i64_in (here - k.at_) (by omega)
  have g0 : ∀ n : Nat, n < n + 1 := fun n => by omega
  clear h hk hb hv HA HH
  go_enter Tryd.func54, Tryd.ntmps54
  go_wp2_with fail
  obtain ⟨W1, hW1⟩ : ∃ W, ((w.alloc (.cells #[.int .i64 k.lo, .int .i64 k.hi, .int .i64 k.at_] 129)).alloc (.cells #[.int .i64 0, .int .i64 0] 38)) = W := ⟨_, rfl⟩
  have hB1 : Below w.heap.size w W1 := by rw [← hW1]; exact (by repeat (first | with_reducible exact Below.refl _ _ | (with_reducible refine Below.alloc ?_ (by first | omega | (simp; done) | (simp; omega)) _) | (with_reducible refine Below.setCell ?_ (by first | omega | (simp; done) | (simp; omega)) _) | (with_reducible refine Below.drew ?_) | (with_reducible refine below_drewN ?_ _) | (with_reducible assumption) | (with_reducible refine bel_step (by with_reducible assumption) ?_ (by first | omega | (simp; done) | (simp; omega)))))
  have bk : Blk W1 w.heap.size 129 #[.int .i64 k.lo, .int .i64 k.hi, .int .i64 k.at_] := by rw [← hW1]; exact (Blk.new w _ _).alloc _
  have br : Blk W1 (w.heap.size + 1) 38 #[.int .i64 0, .int .i64 0] := by rw [← hW1]; exact Blk.newAt _ _ _ _ (by simp)
  have hs1 : W1.heap.size = w.heap.size + 2 := by rw [← hW1]; simp
  have x0 : W1.cell? ⟨w.heap.size, 0, none⟩ = some (.int .i64 k.lo) := bk.cell 0
  have x1 : W1.cell? ⟨w.heap.size, 1, none⟩ = some (.int .i64 k.hi) := bk.cell 1
  have x2 : W1.cell? ⟨w.heap.size, 2, none⟩ = some (.int .i64 k.at_) := bk.cell 2
  have x3 : W1.cell? ⟨g, 2, none⟩ = some (.int .i64 s.p) := (hB1.cell (p := ⟨g, 2, none⟩) kl).trans c2
  have BRh := Lib.hid br
  rw [hW1]
  clear hW1 bk br c2
  have kl1 : g < W1.heap.size := by omega
  refine wp_region_held_drew (S := fun w9 => w9.cell? ⟨w.heap.size, 0, none⟩ = some (.int .i64 k.lo) ∧ w9.cell? ⟨w.heap.size, 1, none⟩ = some (.int .i64 k.hi) ∧ w9.cell? ⟨w.heap.size, 2, none⟩ = some (.int .i64 k.at_) ∧ w9.cell? ⟨g, 2, none⟩ = some (.int .i64 s.p)) (by kernel_rfl) (⟨x0, x1, x2, x3⟩) (fun hHeld => ?_)
  refine take_d (i := 0) (v := (.pointer (some ⟨w.heap.size, 0, none⟩))) (d := some 7) rfl (by kernel_rfl) (by kernel_rfl) (by kernel_rfl) (by kernel_rfl) (fun _ _ _ h => h) (Or.inl ⟨by kernel_rfl, fun w9 hw9 => by (go_simp)⟩) hHeld ?_
  try simp only [Act.put, List.setIfInBounds_toArray, List.set_cons_zero, List.set_cons_succ]
  refine take_d (i := 1) (v := (.agg #[.int .i64 k.lo, .int .i64 k.hi])) (d := some 8) rfl (by kernel_rfl) (by kernel_rfl) (by kernel_rfl) (by kernel_rfl) (fun _ _ _ h => h) (Or.inl ⟨by kernel_rfl, fun w9 hw9 => by (obtain ⟨a0, a1, a2, a3⟩ := hw9; go_simp)⟩) hHeld ?_
  try simp only [Act.put, List.setIfInBounds_toArray, List.set_cons_zero, List.set_cons_succ]
  refine take_d (i := 2) (v := (.int .i64 here)) (d := some 9) rfl (by kernel_rfl) (by kernel_rfl) (by kernel_rfl) (by kernel_rfl) (fun _ _ _ h => h) (Or.inl ⟨by kernel_rfl, fun w9 hw9 => by (go_simp)⟩) hHeld ?_
  try simp only [Act.put, List.setIfInBounds_toArray, List.set_cons_zero, List.set_cons_succ]
  refine take_d (i := 3) (v := (.pointer (some ⟨w.heap.size, 2, none⟩))) (d := some 10) rfl (by kernel_rfl) (by kernel_rfl) (by kernel_rfl) (by kernel_rfl) (fun _ _ _ h => h) (Or.inl ⟨by kernel_rfl, fun w9 hw9 => by (go_simp)⟩) hHeld ?_
  try simp only [Act.put, List.setIfInBounds_toArray, List.set_cons_zero, List.set_cons_succ]
  refine take_d (i := 4) (v := (.int .i64 k.at_)) (d := some 11) rfl (by kernel_rfl) (by kernel_rfl) (by kernel_rfl) (by kernel_rfl) (fun _ _ _ h => h) (Or.inl ⟨by kernel_rfl, fun w9 hw9 => by (obtain ⟨a0, a1, a2, a3⟩ := hw9; go_simp)⟩) hHeld ?_
  try simp only [Act.put, List.setIfInBounds_toArray, List.set_cons_zero, List.set_cons_succ]
  refine take_d (i := 5) (v := (.int .i64 (here - k.at_))) (d := some 12) rfl (by kernel_rfl) (by kernel_rfl) (by kernel_rfl) (by kernel_rfl) (fun _ _ _ h => h) (Or.inl ⟨by kernel_rfl, fun w9 hw9 => by (go_simp)⟩) hHeld ?_
  try simp only [Act.put, List.setIfInBounds_toArray, List.set_cons_zero, List.set_cons_succ]
  refine take_d (i := 6) (v := (.pointer (some ⟨g, 0, none⟩))) (d := some 13) rfl (by kernel_rfl) (by kernel_rfl) (by kernel_rfl) (by kernel_rfl) (fun _ _ _ h => h) (Or.inl ⟨by kernel_rfl, fun w9 hw9 => by (go_simp)⟩) hHeld ?_
  try simp only [Act.put, List.setIfInBounds_toArray, List.set_cons_zero, List.set_cons_succ]
  refine take_d (i := 7) (v := (.pointer (some ⟨g, 0, none⟩))) (d := some 14) rfl (by kernel_rfl) (by kernel_rfl) (by kernel_rfl) (by kernel_rfl) (fun _ _ _ h => h) (Or.inl ⟨by kernel_rfl, fun w9 hw9 => by (go_simp)⟩) hHeld ?_
  try simp only [Act.put, List.setIfInBounds_toArray, List.set_cons_zero, List.set_cons_succ]
  refine take_d (i := 8) (v := (.pointer (some ⟨g, 2, none⟩))) (d := some 15) rfl (by kernel_rfl) (by kernel_rfl) (by kernel_rfl) (by kernel_rfl) (fun _ _ _ h => h) (Or.inl ⟨by kernel_rfl, fun w9 hw9 => by (go_simp)⟩) hHeld ?_
  try simp only [Act.put, List.setIfInBounds_toArray, List.set_cons_zero, List.set_cons_succ]
  refine take_d (i := 9) (v := (.int .i64 s.p)) (d := some 16) rfl (by kernel_rfl) (by kernel_rfl) (by kernel_rfl) (by kernel_rfl) (fun _ _ _ h => h) (Or.inl ⟨by kernel_rfl, fun w9 hw9 => by (obtain ⟨a0, a1, a2, a3⟩ := hw9; go_simp)⟩) hHeld ?_
  try simp only [Act.put, List.setIfInBounds_toArray, List.set_cons_zero, List.set_cons_succ]
  try simp only [Act.put, List.setIfInBounds_toArray, List.set_cons_zero, List.set_cons_succ]
  refine wpAnyH_ready (rs := [10]) (by kernel_rfl) (by simp) ?_
  refine AllReadyH.cons rfl (fun K hK => ?_) AllReadyH.nil
  go_simp
  refine (CS.out _).mono ?_
  rintro e w' ⟨rfl, rfl⟩
  refine hK.out _ _ (hHeld) (fun hHeld2 => ?_)
  clear hK K hHeld
  have hHeld := hHeld2
  try simp only [Act.put, List.setIfInBounds_toArray, List.set_cons_zero, List.set_cons_succ]
  try simp only [Act.put, List.setIfInBounds_toArray, List.set_cons_zero, List.set_cons_succ]
  refine wpAnyH_ready (rs := [11]) (by kernel_rfl) (by simp) ?_
  refine AllReadyH.cons rfl (fun K hK => ?_) AllReadyH.nil
  go_simp
  refine (CW.out _).mono ?_
  rintro e w2 ⟨rfl, hb2⟩
  have HB2 : Below W1.heap.size W1 w2 := (show Below W1.heap.size W1 W1.drew from by exact (by repeat (first | with_reducible exact Below.refl _ _ | (with_reducible refine Below.alloc ?_ (by first | omega | (simp; done) | (simp; omega)) _) | (with_reducible refine Below.setCell ?_ (by first | omega | (simp; done) | (simp; omega)) _) | (with_reducible refine Below.drew ?_) | (with_reducible refine below_drewN ?_ _) | (with_reducible assumption) | (with_reducible refine bel_step (by with_reducible assumption) ?_ (by first | omega | (simp; done) | (simp; omega)))))).trans hb2
  have hR2 : Blk w2 (w.heap.size + 1) 38 #[.int .i64 0, .int .i64 0] := BRh.out.below HB2 (by omega)
  refine hK.out _ _ (⟨(HB2.cell (p := ⟨w.heap.size, 0, none⟩) (by show w.heap.size < _; omega)).trans x0, (HB2.cell (p := ⟨w.heap.size, 1, none⟩) (by show w.heap.size < _; omega)).trans x1, (HB2.cell (p := ⟨w.heap.size, 2, none⟩) (by show w.heap.size < _; omega)).trans x2, (HB2.cell (p := ⟨g, 2, none⟩) kl1).trans x3⟩) (fun hHeld2 => ?_)
  clear hK K hHeld
  have hHeld := hHeld2
  try simp only [Act.put, List.setIfInBounds_toArray, List.set_cons_zero, List.set_cons_succ]
  have r0 : w2.cell? ⟨w.heap.size + 1, 0, none⟩ = some (.int .i64 0) := hR2.cell 0
  have r1 : w2.cell? ⟨w.heap.size + 1, 1, none⟩ = some (.int .i64 0) := hR2.cell 1
  have f0 : w2.frozen? ⟨w.heap.size + 1, 0, none⟩ = false := hR2.fz 0
  have f1 : w2.frozen? ⟨w.heap.size + 1, 1, none⟩ = false := hR2.fz 1
  obtain ⟨a0, a1, a2, a3⟩ := hHeld
  have hHeld : True := trivial
  refine wpAnyH_ready (rs := [12]) (by kernel_rfl) (by simp) ?_; refine AllReadyH.cons rfl (fun K hK => ?_) AllReadyH.nil
  go_simp
  refine hK.out _ _ (⟨(by (repeat (rw [World.cell?_setCell_other _ _ _ _ (by first | omega | (simp; done) | (simp; omega))])); assumption), (by (repeat (rw [World.cell?_setCell_other _ _ _ _ (by first | omega | (simp; done) | (simp; omega))])); assumption), (by (repeat (rw [World.cell?_setCell_other _ _ _ _ (by first | omega | (simp; done) | (simp; omega))])); assumption), (by (repeat (rw [World.cell?_setCell_other _ _ _ _ (by first | omega | (simp; done) | (simp; omega))])); assumption)⟩) (fun hHeld2 => ?_); clear hK K hHeld; have hHeld := hHeld2; clear hHeld2
  try simp only [Act.put, List.setIfInBounds_toArray, List.set_cons_zero, List.set_cons_succ]
  refine wpAnyH_done (by kernel_rfl) ?_ _
  try simp only [Act.put, List.setIfInBounds_toArray, List.set_cons_zero, List.set_cons_succ]
  have hF : Blk ((w2.setCell ⟨w.heap.size + 1, 0, none⟩ (.int .i64 (k.lo - v))).setCell ⟨w.heap.size + 1, 1, none⟩ (.int .i64 (k.hi + v))) (w.heap.size + 1) 38 #[.int .i64 (k.lo - v), .int .i64 (k.hi + v)] := ((hR2.set 0 _).set 1 _).conv rfl
  obtain ⟨W3, hW3⟩ : ∃ W, ((w2.setCell ⟨w.heap.size + 1, 0, none⟩ (.int .i64 (k.lo - v))).setCell ⟨w.heap.size + 1, 1, none⟩ (.int .i64 (k.hi + v))) = W := ⟨_, rfl⟩
  have hB3 : Below w.heap.size w W3 := by rw [← hW3]; exact ((hB1.trans (HB2.mono hB1.size)).setCell (by show w.heap.size ≤ w.heap.size + 1; omega) _).setCell (by show w.heap.size ≤ w.heap.size + 1; omega) _
  rw [hW3] at hF ⊢
  have e0 : W3.cell? ⟨w.heap.size + 1, 0, none⟩ = some (.int .i64 (k.lo - v)) := hF.cell 0
  have e1 : W3.cell? ⟨w.heap.size + 1, 1, none⟩ = some (.int .i64 (k.hi + v)) := hF.cell 1
  clear hW3 hF hHeld a0 a1 a2 a3
  go_wp2_with fail
  refine bodyPost_ret (v := .agg #[.int .i64 (k.lo - v), .int .i64 (k.hi + v)]) (by simp [results, Tryd.results54, go_sem, e0, e1]) rfl ⟨rfl, hB3⟩
end Go.Proofs.YtmficdfihogffaaDoor

/- The reference's fault of clocks, walked. -/
namespace Go.Proofs.YtmficdfihogffaaDoor
open Go.RowKit
set_option linter.unusedVariables false
set_option linter.unusedSimpArgs false
set_option maxRecDepth 100000 in
set_option maxHeartbeats 4000000 in
theorem r2_Begin (A : Option Addr) (n c : Nat) (zs : List Int) (A2 : Option Addr) (n2 c2 : Nat) (ys : List Int) (p : Int) (w : World) (h : IsInts w A n c zs) (h2 : IsInts w A2 n2 c2 ys) (hp : i64B p) :
    Calls Tryd.prog 5 #[.slice A n c, .slice A2 n2 c2, .int .i64 p] w fun e w' => e = .returned (.int .i64 (newC zs ys p)) ∧ Below w.heap.size w w' := by
  have l1 := h.1
  have l2 := h2.1
  have hc1 := h.2.2.1
  have hc2 := h2.2.2.1
  have hn1 := h.2.1
  have hn2 := h2.2.1
  obtain ⟨p0, p1⟩ := hp
  unfold maxLen at hc1 hc2
  have key : (p < 0 ∨ (¬ p < 0 ∧ 1000 < p) ∨ (¬ p < 0 ∧ ¬ 1000 < p ∧ n < 1) ∨ (¬ p < 0 ∧ ¬ 1000 < p ∧ ¬ n < 1 ∧ 6 < n)) ∨ (¬ p < 0 ∧ ¬ 1000 < p ∧ ¬ n < 1 ∧ ¬ 6 < n) := by omega
  rcases key with key | ⟨k1, k2, k3, k4⟩
  · rw [newC_bad1 (by
      rcases key with k | ⟨k, k'⟩ | ⟨_, _, k⟩ | ⟨_, _, _, k⟩
      · left; cases hb : rateB p; rfl; rw [rateB_iff] at hb; omega
      · left; cases hb : rateB p; rfl; rw [rateB_iff] at hb; omega
      · right; left; omega
      · right; right; omega)]
    clear h h2 l1 l2
    rcases key with d1 | ⟨d1, d2⟩ | ⟨d1, d2, d3⟩ | ⟨d1, d2, d3, d4⟩
    all_goals
      go_enter Tryd.func5, Tryd.ntmps5
      go_wp2_with fail
      go_ret
      exact ⟨rfl, (by repeat (first | with_reducible exact Below.refl _ _ | (with_reducible refine Below.alloc ?_ (by first | omega | (simp; done) | (simp; omega)) _) | (with_reducible refine Below.setCell ?_ (by first | omega | (simp; done) | (simp; omega)) _) | (with_reducible refine Below.drew ?_) | (with_reducible refine below_drewN ?_ _) | (with_reducible assumption) | (with_reducible refine bel_step (by with_reducible assumption) ?_ (by first | omega | (simp; done) | (simp; omega)))))⟩
  · rw [newC_go (rateB_iff.2 (by omega)) (by omega) (by omega)]
    by_cases k5 : n2 = n
    · rw [if_pos (by omega)]
      obtain ⟨V, hV⟩ : ∃ V, clocksB p zs ys = V := ⟨_, rfl⟩
      rw [hV]
      subst k5
      obtain ⟨b, off, rfl, hbl, hcell⟩ := h.2.2.2.2 (by omega)
      obtain ⟨b2, off2, rfl, hbl2, hcell2⟩ := h2.2.2.2.2 (by omega)
      have L1 := Lib.hid l1
      have L2 := Lib.hid l2
      have HC := Lib.hid hcell
      have HC2 := Lib.hid hcell2
      have E5 := Lib.hid hV
      clear h h2 l1 l2 hcell hcell2 hV
      go_enter Tryd.func5, Tryd.ntmps5
      go_wp2_with fail
      go_loopw [7] (fun iv wr => ∃ i : Nat, i ≤ n2 ∧ iv = .int .i64 i ∧ clocksB p (zs.drop i) (ys.drop i) = V ∧ wr = w) (fun iv _ => n2 - (intOf iv).toNat)
      case atStart => exact ⟨0, by omega, rfl, by simpa using E5.out, rfl⟩
      case round =>
        obtain ⟨i, hi, rfl, hI, rfl⟩ := hrel
        by_cases d1 : i < n2
        · obtain ⟨s, hs⟩ : ∃ z, zs[i]? = some z := ⟨_, List.getElem?_eq_getElem (by rw [L1.out]; omega)⟩
          obtain ⟨r, hr⟩ : ∃ z, ys[i]? = some z := ⟨_, List.getElem?_eq_getElem (by rw [L2.out]; omega)⟩
          have x0 := HC.out i s hs 0 _ rfl
          have x1 := HC2.out i r hr 0 _ rfl
          simp only [Nat.mul_one, Nat.add_zero] at x0 x1
          rw [clocksB_step hs hr] at hI
          have q0 : (0 : Int) ≤ (i : Int) := by omega
          have q1 : (i : Int) < (n2 : Int) := by omega
          have u1 := IntWalk.i64_in (-p) (by omega)
          have hd : (s < 0 ∧ V = false) ∨ (¬ s < 0 ∧ 1000000 < s ∧ V = false) ∨ (¬ s < 0 ∧ ¬ 1000000 < s ∧ r < -p ∧ V = false) ∨ (¬ s < 0 ∧ ¬ 1000000 < s ∧ ¬ r < -p ∧ p < r ∧ V = false) ∨
              (¬ s < 0 ∧ ¬ 1000000 < s ∧ ¬ r < -p ∧ ¬ p < r ∧ clocksB p (zs.drop (i + 1)) (ys.drop (i + 1)) = V) := by
            by_cases i1 : s < 0
            · exact .inl ⟨i1, by rw [← hI, decide_eq_false (by omega)]; rfl⟩
            by_cases i2 : 1000000 < s
            · exact .inr (.inl ⟨i1, i2, by rw [← hI, decide_eq_false (show ¬ s ≤ 1000000 by omega)]; simp⟩)
            by_cases i3 : r < -p
            · exact .inr (.inr (.inl ⟨i1, i2, i3, by rw [← hI, decide_eq_false (show ¬ -p ≤ r by omega)]; simp⟩))
            by_cases i4 : p < r
            · exact .inr (.inr (.inr (.inl ⟨i1, i2, i3, i4, by rw [← hI, decide_eq_false (show ¬ r ≤ p by omega)]; simp⟩)))
            · exact .inr (.inr (.inr (.inr ⟨i1, i2, i3, i4, by rw [← hI, decide_eq_true (show 0 ≤ s by omega), decide_eq_true (show s ≤ 1000000 by omega), decide_eq_true (show -p ≤ r by omega), decide_eq_true (show r ≤ p by omega)]; rfl⟩)))
          clear hs hr hI
          rcases hd with ⟨e1, rfl⟩ | ⟨e1, e2, rfl⟩ | ⟨e1, e2, e3, rfl⟩ | ⟨e1, e2, e3, e4, rfl⟩ | ⟨e1, e2, e3, e4, e5⟩
          iterate 4
            · go_wp2_with fail
              go_ret
              exact ⟨rfl, (by repeat (first | with_reducible exact Below.refl _ _ | (with_reducible refine Below.alloc ?_ (by first | omega | (simp; done) | (simp; omega)) _) | (with_reducible refine Below.setCell ?_ (by first | omega | (simp; done) | (simp; omega)) _) | (with_reducible refine Below.drew ?_) | (with_reducible refine below_drewN ?_ _) | (with_reducible assumption) | (with_reducible refine bel_step (by with_reducible assumption) ?_ (by first | omega | (simp; done) | (simp; omega)))))⟩
          · have E6 := Lib.hid e5
            clear e5
            go_wp2_with fail
            go_roundw
            case rel => exact ⟨i + 1, by omega, by go_num, E6.out, (by trivial)⟩
            case measure => simp [intOf]; omega
        · rw [clocksB_nil (by rw [L1.out]; omega)] at hI
          subst hI
          go_wp2_with fail
          go_ret
          exact ⟨rfl, (by repeat (first | with_reducible exact Below.refl _ _ | (with_reducible refine Below.alloc ?_ (by first | omega | (simp; done) | (simp; omega)) _) | (with_reducible refine Below.setCell ?_ (by first | omega | (simp; done) | (simp; omega)) _) | (with_reducible refine Below.drew ?_) | (with_reducible refine below_drewN ?_ _) | (with_reducible assumption) | (with_reducible refine bel_step (by with_reducible assumption) ?_ (by first | omega | (simp; done) | (simp; omega)))))⟩
    · rw [if_neg (by omega)]
      have k6 : ((n2 : Int) != (n : Int)) = true := by simp; omega
      clear h h2 l1 l2
      go_enter Tryd.func5, Tryd.ntmps5
      go_wp2_with fail
      go_ret
      exact ⟨rfl, (by repeat (first | with_reducible exact Below.refl _ _ | (with_reducible refine Below.alloc ?_ (by first | omega | (simp; done) | (simp; omega)) _) | (with_reducible refine Below.setCell ?_ (by first | omega | (simp; done) | (simp; omega)) _) | (with_reducible refine Below.drew ?_) | (with_reducible refine below_drewN ?_ _) | (with_reducible assumption) | (with_reducible refine bel_step (by with_reducible assumption) ?_ (by first | omega | (simp; done) | (simp; omega)))))⟩
end Go.Proofs.YtmficdfihogffaaDoor
