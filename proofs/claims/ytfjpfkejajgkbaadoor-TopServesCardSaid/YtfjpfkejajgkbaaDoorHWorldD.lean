/- Letters under way in a world: what is kept, and an ask, walked. -/
import Derived.Test.YtfjpfkejajgkbaaDoorHWorld
import Derived.Test.YtfjpfkejajgkbaaDoorHG1
import Derived.Deep.RegionHeld3
import Derived.Deep.AppendLies
import Derived.BigRegion
import Derived.BigQuiet
namespace Go.Proofs.YtfjpfkejajgkbaaDoor
open Go.RowKit
set_option linter.unusedVariables false
set_option linter.unusedSimpArgs false
/-- what belongs to a world: its block, and that of its letters. -/
def Mine (g : Nat) (uv : Value) (k : Nat) : Prop := k = g ∨ uv.ownBlock = some k
/-- a world behind a pointer, with its letters in a row of its own. -/
structure WorldU (w : World) (g B n : Nat) (ss rs : List Int) (t : Int) (uv : Value) (us : List RLetter) : Prop where
  ex : ∃ gs cs gr cr, Blk w g 134 #[.slice (some ⟨gs, 0, none⟩) n cs, .slice (some ⟨gr, 0, none⟩) n cr, .int .i64 t, uv] ∧ gs ≠ g ∧ gr ≠ g ∧ gs < B ∧ gr < B ∧
    n ≤ cs ∧ n ≤ cr ∧ cs ≤ maxLen ∧ cr ≤ maxLen ∧ (∀ (i : Nat) z, ss[i]? = some z → w.cell? ⟨gs, i, none⟩ = some (.int .i64 z)) ∧ (∀ (i : Nat) z, rs[i]? = some z → w.cell? ⟨gr, i, none⟩ = some (.int .i64 z))
  gB : g < B
  Bw : B ≤ w.heap.size
  row : w.ownsRow B 97 6 uv us.length (us.flatMap RLetter.cells)
  l40 : us.length ≤ 40
  lok : ∀ z ∈ us, RLetter.ok z
  ls : ss.length = n
  lr : rs.length = n
  sb : ∀ (i : Nat) z, ss[i]? = some z → 0 ≤ z ∧ z ≤ 1000000
  rb : ∀ (i : Nat) z, rs[i]? = some z → -1000 ≤ z ∧ z ≤ 1000
  t0 : 0 ≤ t
  t1 : t ≤ 1000000000
  n1 : 1 ≤ n
  n6 : n ≤ 6
theorem WorldU.at {w : World} {g B n : Nat} {ss rs : List Int} {t : Int} {uv : Value} {us : List RLetter} (h : WorldU w g B n ss rs t uv us) : WorldAt w g n ss rs t uv := by
  obtain ⟨⟨gs, cs, gr, cr, k1, k2, k3, k4, k5, k6, k7, k8, k9, k10, k11⟩, gB, Bw, row, l40, lok, ls, lr, sb, rb, t0, t1, n1, n6⟩ := h
  exact ⟨⟨gs, cs, gr, cr, k1, k2, k3, by omega, by omega, k6, k7, k8, k9, k10, k11⟩, ls, lr, sb, rb, t0, t1, n1, n6⟩
theorem WorldU.low {w : World} {g B n : Nat} {ss rs : List Int} {t : Int} {uv : Value} {us : List RLetter} (h : WorldU w g B n ss rs t uv us) : ∀ k, uv.ownBlock = some k → B ≤ k ∧ k < w.heap.size := h.row.lt
theorem WorldU.next {w w' : World} {g B n : Nat} {ss rs : List Int} {t t' : Int} {uv uv' : Value} {us us' : List RLetter} (h : WorldU w g B n ss rs t uv us) (hk : Kept (Mine g uv) w w')
    (hb : ∀ a b, Blk w g 134 #[a, b, .int .i64 t, uv] → Blk w' g 134 #[a, b, .int .i64 t', uv'])
    (row : w'.ownsRow B 97 6 uv' us'.length (us'.flatMap RLetter.cells)) (l40 : us'.length ≤ 40) (lok : ∀ z ∈ us', RLetter.ok z) (t0 : 0 ≤ t') (t1 : t' ≤ 1000000000) : WorldU w' g B n ss rs t' uv' us' := by
  have hlow := h.low
  obtain ⟨⟨gs, cs, gr, cr, k1, k2, k3, k4, k5, k6, k7, k8, k9, k10, k11⟩, gB, Bw, _, _, _, ls, lr, sb, rb, _, _, n1, n6⟩ := h
  have hc : ∀ b, b < B → b ≠ g → ∀ o, w'.cell? ⟨b, o, none⟩ = w.cell? ⟨b, o, none⟩ := fun b hB hg o => World.cell?_of_block (hk.block b (by omega) (fun e => by
    rcases e with e | e
    · exact hg e
    · have := (hlow b e).1; omega))
  exact ⟨⟨gs, cs, gr, cr, hb _ _ k1, k2, k3, k4, k5, k6, k7, k8, k9, fun i z hz => (hc gs k4 k2 i).trans (k10 i z hz), fun i z hz => (hc gr k5 k3 i).trans (k11 i z hz)⟩, gB, Nat.le_trans Bw hk.size, row, l40, lok, ls, lr, sb, rb, t0, t1, n1, n6⟩
theorem WorldU.below {w w' : World} {g B n : Nat} {ss rs : List Int} {t : Int} {uv : Value} {us : List RLetter} (h : WorldU w g B n ss rs t uv us) (hb : Below w.heap.size w w') : WorldU w' g B n ss rs t uv us :=
  h.next ((Kept.refl _ w).below hb) (fun _ _ k => k.below hb k.lt) (own_below h.row hb) h.l40 h.lok h.t0 h.t1
/-- another thing is touched. -/
theorem WorldU.other {w w' : World} {g B n : Nat} {ss rs : List Int} {t : Int} {uv : Value} {us : List RLetter} {P : Nat → Prop} (h : WorldU w g B n ss rs t uv us) (hk : Kept P w w') (hP : ∀ k, P k → B ≤ k ∧ uv.ownBlock ≠ some k) : WorldU w' g B n ss rs t uv us := by
  have hlow := h.low
  have hrow := h.row
  have gB := h.gB
  have hall : ∀ k, k < w.heap.size → (k < B ∨ uv.ownBlock = some k) → w'.heap[k]? = w.heap[k]? := fun k hk1 hk2 => hk.block k hk1 (fun e => by
    obtain ⟨h1, h2⟩ := hP k e
    rcases hk2 with h3 | h3
    · omega
    · exact h2 h3)
  obtain ⟨⟨gs, cs, gr, cr, k1, k2, k3, k4, k5, k6, k7, k8, k9, k10, k11⟩, _, Bw, _, l40, lok, ls, lr, sb, rb, t0, t1, n1, n6⟩ := h
  refine ⟨⟨gs, cs, gr, cr, (hall g (by omega) (.inl gB)).trans k1, k2, k3, k4, k5, k6, k7, k8, k9, fun i z hz => (World.cell?_of_block (hall gs (by omega) (.inl k4))).trans (k10 i z hz), fun i z hz => (World.cell?_of_block (hall gr (by omega) (.inl k5))).trans (k11 i z hz)⟩, gB, Nat.le_trans Bw hk.size, ?_, l40, lok, ls, lr, sb, rb, t0, t1, n1, n6⟩
  refine ⟨hrow.1, ?_⟩
  rcases hrow.2 with h1 | ⟨q, cap, cur, rfl, hB, hg, hn, hm, hs, ht⟩
  · exact .inl h1
  · exact .inr ⟨q, cap, cur, rfl, hB, (hall q (hlow q rfl).2 (.inr rfl)).trans hg, hn, hm, hs, ht⟩
/-- a new world has no letters. -/
theorem world_New_u (A : Option Addr) (n c : Nat) (zs : List Int) (A2 : Option Addr) (n2 c2 : Nat) (ys : List Int) (p : Int) (w : World) (h : IsInts w A n c zs) (h2 : IsInts w A2 n2 c2 ys) (hc : newC zs ys p = 0) :
    Calls Tryd.prog 27 #[.slice A n c, .slice A2 n2 c2, .int .i64 p] w fun e w' => ∃ g B, e = .returned (.tuple #[.pointer (some ⟨g, 0, none⟩), .nilIface]) ∧ w.heap.size ≤ g ∧ WorldU w' g B n zs ys 0 (.slice none 0 0) [] ∧ Below w.heap.size w w' := by
  refine (world_New_ok A n c zs A2 n2 c2 ys p w h h2 hc).mono ?_
  rintro e w' ⟨g, rfl, hg, hw, hb⟩
  have hlt := hw.lt
  obtain ⟨⟨gs, cs, gr, cr, k1, k2, k3, k4, k5, k6, k7, k8, k9, k10, k11⟩, ls, lr, sb, rb, t0, t1, n1, n6⟩ := hw
  exact ⟨g, w'.heap.size, rfl, hg, ⟨⟨gs, cs, gr, cr, k1, k2, k3, k4, k5, k6, k7, k8, k9, k10, k11⟩, hlt, Nat.le_refl _, own_nil _ _ _ _, by simp, by simp, ls, lr, sb, rb, t0, t1, n1, n6⟩, hb⟩
/-- what an ask or an answer leaves. -/
def Sent (w : World) (g B n : Nat) (ss rs : List Int) (t : Int) (uv : Value) (us : List RLetter) (w' : World) : Prop := ∃ uv', WorldU w' g B n ss rs t uv' us ∧ Kept (Mine g uv) w w' ∧ (∀ q, uv'.ownBlock = some q → uv.ownBlock = some q ∨ w.heap.size ≤ q)
theorem sent_done {w W w5 : World} {g B n gg m cap : Nat} {ss rs : List Int} {t : Int} {uv : Value} {us : List RLetter} {L : RLetter} (h : WorldU w g B n ss rs t uv us) (hW : Below w.heap.size w W) (hg5 : W.grownBy w5 uv.ownBlock) (hgg : uv.ownBlock = some gg ∨ gg = W.heap.size)
    (ho5 : w5.ownsRow B 97 6 (.slice (some ⟨gg, 0, none⟩) m cap) (us.length + 1) (us.flatMap RLetter.cells ++ RLetter.cells L)) (hl : us.length < 40) (hok : RLetter.ok L) : Sent w g B n ss rs t uv (us ++ [L]) (w5.setCell ⟨g, 3, none⟩ (.slice (some ⟨gg, 0, none⟩) m cap)) := by
  have hlow := h.low
  have hgB := h.gB
  have hBw := h.Bw
  have hne : some g ≠ uv.ownBlock := fun e => by have := (hlow _ e.symm).1; omega
  refine ⟨.slice (some ⟨gg, 0, none⟩) m cap, h.next (((((Kept.refl _ w).below hW).grown hg5 (fun k e => .inl (.inr e))).set g 3 _ (.inl (.inl rfl)))) (fun a b k1 => ?_) ?_ ?_ ?_ h.t0 h.t1, ((((Kept.refl _ w).below hW).grown hg5 (fun k e => .inl (.inr e))).set g 3 _ (.inl (.inl rfl))), fun q e => ?_⟩
  · exact (((k1.below hW k1.lt).grown hg5 hne).set 3 _).conv rfl
  · exact own_touched (own_snoc RLetter.cells ho5) ((Touched.refl g w5).set 3 _) hgB
  · rw [List.length_append]; simp; omega
  · intro z hz
    rcases List.mem_append.1 hz with h1 | h1
    · exact h.lok z h1
    · simp at h1; subst h1; exact hok
  · have e : gg = q := by simpa [Value.ownBlock] using e
    subst e
    rcases hgg with h1 | h1
    · exact .inl h1
    · right; have := hW.size; omega
end Go.Proofs.YtfjpfkejajgkbaaDoor
