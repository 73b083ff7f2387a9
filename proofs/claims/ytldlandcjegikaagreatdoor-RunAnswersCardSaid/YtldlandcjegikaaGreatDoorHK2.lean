/- Texts that serve many laws, one behind the other. -/
import Derived.BigQuiet
import Derived.BigRegion
import Derived.ChangeVars
import Derived.Deep.AppendLies
import Derived.Deep.RegionHeld3
import Derived.JoinedOf
import Derived.LaidHandle
import Derived.LaidLaws
import Derived.RowKitTokens
import Derived.SevenTiedAt
import Derived.Stop.Joined
import Derived.Test.YtldlandcjegikaaGreatDoorCards
import Derived.Test.YtldlandcjegikaaGreatDoorHCivil
import Derived.Test.YtldlandcjegikaaGreatDoorHErrs
import Derived.Test.YtldlandcjegikaaGreatDoorHK1
import Derived.Test.YtldlandcjegikaaGreatDoorHNodeP
import Derived.Test.YtldlandcjegikaaGreatDoorHRef1
import Derived.Test.YtldlandcjegikaaGreatDoorHWorld
import Derived.Test.YtldlandcjegikaaGreatDoorTie
set_option linter.unusedVariables false
set_option linter.unusedSimpArgs false
namespace Go.Proofs.YtldlandcjegikaaGreatDoor

section
open Go.ChangeShapes Go.WideShapes Go.ChangeAt Go.RowKit
theorem door_et : Tryz.prog.globalNamed "errors.errorType" = some 1 := by kernel_rfl
theorem door_rt : (Tryz.prog.cutTypes.find? (·.1 == "internal/reflectlite.rtype")).map (·.2) = some 191 := by kernel_rfl
theorem door_oneRow : ((List.range 301).filter fun t => Tryz.prog.rowNamed t [101, 114, 114, 111, 114]) = [36] := by kernel_rfl
theorem door_size : Tryz.prog.types.size = 301 := by kernel_rfl
def laidList : List (String × DataW Unit) := [("errors.errorType", Rows.laid_errors_errorType)]
theorem handle_of_laid {W : World} (h : laidMetH Tryz.prog laidList W) : HandleAt W := by
 have h' : laidMet Tryz.prog [] W ∧ handlesMet Tryz.prog laidList W := h
 obtain ⟨name, u, ty, e1, e2, e3, e4, e5⟩ := h'.2 _ (List.mem_singleton.2 rfl)
 have en : name = [101, 114, 114, 111, 114] := (Option.some.inj e1).symm
 subst en
 obtain rfl := Option.some.inj (door_rt.symm.trans e2)
 have hm : ty ∈ (List.range 301).filter fun t => Tryz.prog.rowNamed t [101, 114, 114, 111, 114] := List.mem_filter.2 ⟨List.mem_range.2 (by rw [← door_size]; exact e3), e4⟩
 rw [door_oneRow] at hm
 obtain rfl := List.mem_singleton.1 hm
 have hh : typeHandle Tryz.prog 36 = .pointer (some ⟨11, 36, none⟩) := by kernel_rfl
 rw [hh] at e5
 have h3 := World.var?_cell door_et e5 0
 unfold HandleAt
 simpa using h3
theorem noStandIn {P : Program} {ps : Array TypeId} {j : Nat} {t : TypeId} (h : ps.all (fun t => P.wantsStandIn t == false) = true) (ht : ps[j]? = some t) : P.wantsStandIn t = false := by
 obtain ⟨hj, rfl⟩ := Array.getElem?_eq_some_iff.1 ht
 have := Array.all_eq_true.1 h j hj
 simpa using this
end


section
open Go.RowKit
def Mine (g : Nat) (uv : Value) (k : Nat) : Prop := k = g ∨ uv.ownBlock = some k
structure WorldU (w : World) (g B n : Nat) (ss rs : List Int) (t : Int) (uv : Value) (us : List RLetter) : Prop where
 ex : ∃ gs cs gr cr, Blk w g 134 #[.slice (some ⟨gs, 0, none⟩) n cs, .slice (some ⟨gr, 0, none⟩) n cr, .int .i64 t, uv] ∧ gs ≠ g ∧ gr ≠ g ∧ gs < B ∧ gr < B ∧
  n ≤ cs ∧ n ≤ cr ∧ cs ≤ maxLen ∧ cr ≤ maxLen ∧ (∀ (i : Nat) z, ss[i]? = some z → w.cell? ⟨gs, i, none⟩ = some (.int .i64 z)) ∧ (∀ (i : Nat) z, rs[i]? = some z → w.cell? ⟨gr, i, none⟩ = some (.int .i64 z))
 gB : g < B
 Bw : B ≤ w.heap.size
 row : w.ownsRow B 110 6 uv us.length (us.flatMap RLetter.cells)
 l40 : us.length ≤ 40
 lok : ∀ z ∈ us, RLetter.ok z
 ls : ss.length = n
 lr : rs.length = n
 sb : ∀ (i : Nat) z, ss[i]? = some z → 0 ≤ z ∧ z ≤ 1000000
 rb : ∀ (i : Nat) z, rs[i]? = some z → -1000 ≤ z ∧ z ≤ 1000
 t0 : 0 ≤ t
 t1 : t ≤ 1000000000
 n1 : 1 ≤ n
 n6 : n ≤ 6
theorem WorldU.at {w : World} {g B n : Nat} {ss rs : List Int} {t : Int} {uv : Value} {us : List RLetter} (h : WorldU w g B n ss rs t uv us) : WorldAt w g n ss rs t uv := by
 obtain ⟨⟨gs, cs, gr, cr, k1, k2, k3, k4, k5, k6, k7, k8, k9, k10, k11⟩, gB, Bw, row, l40, lok, ls, lr, sb, rb, t0, t1, n1, n6⟩ := h
 exact ⟨⟨gs, cs, gr, cr, k1, k2, k3, by omega, by omega, k6, k7, k8, k9, k10, k11⟩, ls, lr, sb, rb, t0, t1, n1, n6⟩
theorem WorldU.low {w : World} {g B n : Nat} {ss rs : List Int} {t : Int} {uv : Value} {us : List RLetter} (h : WorldU w g B n ss rs t uv us) : ∀ k, uv.ownBlock = some k → B ≤ k ∧ k < w.heap.size := h.row.lt
theorem WorldU.next {w w' : World} {g B n : Nat} {ss rs : List Int} {t t' : Int} {uv uv' : Value} {us us' : List RLetter} (h : WorldU w g B n ss rs t uv us) (hk : Kept (Mine g uv) w w')
  (hb : ∀ a b, Blk w g 134 #[a, b, .int .i64 t, uv] → Blk w' g 134 #[a, b, .int .i64 t', uv'])
  (row : w'.ownsRow B 110 6 uv' us'.length (us'.flatMap RLetter.cells)) (l40 : us'.length ≤ 40) (lok : ∀ z ∈ us', RLetter.ok z) (t0 : 0 ≤ t') (t1 : t' ≤ 1000000000) : WorldU w' g B n ss rs t' uv' us' := by
 have hlow := h.low
 obtain ⟨⟨gs, cs, gr, cr, k1, k2, k3, k4, k5, k6, k7, k8, k9, k10, k11⟩, gB, Bw, _, _, _, ls, lr, sb, rb, _, _, n1, n6⟩ := h
 have hc : ∀ b, b < B → b ≠ g → ∀ o, w'.cell? ⟨b, o, none⟩ = w.cell? ⟨b, o, none⟩ := fun b hB hg o => World.cell?_of_block (hk.block b (by omega) (fun e => by
  rcases e with e | e
  ·exact hg e
  ·have := (hlow b e).1; omega))
 exact ⟨⟨gs, cs, gr, cr, hb _ _ k1, k2, k3, k4, k5, k6, k7, k8, k9, fun i z hz => (hc gs k4 k2 i).trans (k10 i z hz), fun i z hz => (hc gr k5 k3 i).trans (k11 i z hz)⟩, gB, Nat.le_trans Bw hk.size, row, l40, lok, ls, lr, sb, rb, t0, t1, n1, n6⟩
theorem WorldU.below {w w' : World} {g B n : Nat} {ss rs : List Int} {t : Int} {uv : Value} {us : List RLetter} (h : WorldU w g B n ss rs t uv us) (hb : Below w.heap.size w w') : WorldU w' g B n ss rs t uv us :=
 h.next ((Kept.refl _ w).below hb) (fun _ _ k => k.below hb k.lt) (own_below h.row hb) h.l40 h.lok h.t0 h.t1
theorem WorldU.other {w w' : World} {g B n : Nat} {ss rs : List Int} {t : Int} {uv : Value} {us : List RLetter} {P : Nat → Prop} (h : WorldU w g B n ss rs t uv us) (hk : Kept P w w') (hP : ∀ k, P k → B ≤ k ∧ uv.ownBlock ≠ some k) : WorldU w' g B n ss rs t uv us := by
 have hlow := h.low
 have hrow := h.row
 have gB := h.gB
 have hall : ∀ k, k < w.heap.size → (k < B ∨ uv.ownBlock = some k) → w'.heap[k]? = w.heap[k]? := fun k hk1 hk2 => hk.block k hk1 (fun e => by
  obtain ⟨h1, h2⟩ := hP k e
  rcases hk2 with h3 | h3
  ·omega
  ·exact h2 h3)
 obtain ⟨⟨gs, cs, gr, cr, k1, k2, k3, k4, k5, k6, k7, k8, k9, k10, k11⟩, _, Bw, _, l40, lok, ls, lr, sb, rb, t0, t1, n1, n6⟩ := h
 refine ⟨⟨gs, cs, gr, cr, (hall g (by omega) (.inl gB)).trans k1, k2, k3, k4, k5, k6, k7, k8, k9, fun i z hz => (World.cell?_of_block (hall gs (by omega) (.inl k4))).trans (k10 i z hz), fun i z hz => (World.cell?_of_block (hall gr (by omega) (.inl k5))).trans (k11 i z hz)⟩, gB, Nat.le_trans Bw hk.size, ?_, l40, lok, ls, lr, sb, rb, t0, t1, n1, n6⟩
 refine ⟨hrow.1, ?_⟩
 rcases hrow.2 with h1 | ⟨q, cap, cur, rfl, hB, hg, hn, hm, hs, ht⟩
 ·exact .inl h1
 ·exact .inr ⟨q, cap, cur, rfl, hB, (hall q (hlow q rfl).2 (.inr rfl)).trans hg, hn, hm, hs, ht⟩
theorem world_New_u (A : Option Addr) (n c : Nat) (zs : List Int) (A2 : Option Addr) (n2 c2 : Nat) (ys : List Int) (p : Int) (w : World) (h : IsInts w A n c zs) (h2 : IsInts w A2 n2 c2 ys) (hc : newC zs ys p = 0) :
  Calls Tryz.prog 32 #[.slice A n c, .slice A2 n2 c2, .int .i64 p] w fun e w' => ∃ g B, e = .returned (.tuple #[.pointer (some ⟨g, 0, none⟩), .nilIface]) ∧ w.heap.size ≤ g ∧ WorldU w' g B n zs ys 0 (.slice none 0 0) [] ∧ Below w.heap.size w w' := by
 refine (world_New_ok A n c zs A2 n2 c2 ys p w h h2 hc).mono ?_
 rintro e w' ⟨g, rfl, hg, hw, hb⟩
 have hlt := hw.lt
 obtain ⟨⟨gs, cs, gr, cr, k1, k2, k3, k4, k5, k6, k7, k8, k9, k10, k11⟩, ls, lr, sb, rb, t0, t1, n1, n6⟩ := hw
 exact ⟨g, w'.heap.size, rfl, hg, ⟨⟨gs, cs, gr, cr, k1, k2, k3, k4, k5, k6, k7, k8, k9, k10, k11⟩, hlt, Nat.le_refl _, own_nil _ _ _ _, by simp, by simp, ls, lr, sb, rb, t0, t1, n1, n6⟩, hb⟩
def Sent (w : World) (g B n : Nat) (ss rs : List Int) (t : Int) (uv : Value) (us : List RLetter) (w' : World) : Prop := ∃ uv', WorldU w' g B n ss rs t uv' us ∧ Kept (Mine g uv) w w' ∧ (∀ q, uv'.ownBlock = some q → uv.ownBlock = some q ∨ w.heap.size ≤ q)
theorem sent_done {w W w5 : World} {g B n gg m cap : Nat} {ss rs : List Int} {t : Int} {uv : Value} {us : List RLetter} {L : RLetter} (h : WorldU w g B n ss rs t uv us) (hW : Below w.heap.size w W) (hg5 : W.grownBy w5 uv.ownBlock) (hgg : uv.ownBlock = some gg ∨ gg = W.heap.size)
  (ho5 : w5.ownsRow B 110 6 (.slice (some ⟨gg, 0, none⟩) m cap) (us.length + 1) (us.flatMap RLetter.cells ++ RLetter.cells L)) (hl : us.length < 40) (hok : RLetter.ok L) : Sent w g B n ss rs t uv (us ++ [L]) (w5.setCell ⟨g, 3, none⟩ (.slice (some ⟨gg, 0, none⟩) m cap)) := by
 have hlow := h.low
 have hgB := h.gB
 have hBw := h.Bw
 have hne : some g ≠ uv.ownBlock := fun e => by have := (hlow _ e.symm).1; omega
 refine ⟨.slice (some ⟨gg, 0, none⟩) m cap, h.next (((((Kept.refl _ w).below hW).grown hg5 (fun k e => .inl (.inr e))).set g 3 _ (.inl (.inl rfl)))) (fun a b k1 => ?_) ?_ ?_ ?_ h.t0 h.t1, ((((Kept.refl _ w).below hW).grown hg5 (fun k e => .inl (.inr e))).set g 3 _ (.inl (.inl rfl))), fun q e => ?_⟩
 ·exact (((k1.below hW k1.lt).grown hg5 hne).set 3 _).conv rfl
 ·exact own_touched (own_snoc RLetter.cells ho5) ((Touched.refl g w5).set 3 _) hgB
 ·rw [List.length_append]; simp; omega
 ·intro z hz
  rcases List.mem_append.1 hz with h1 | h1
  ·exact h.lok z h1
  ·simp at h1; subst h1; exact hok
 ·have e : gg = q := by simpa [Value.ownBlock] using e
  subst e
  rcases hgg with h1 | h1
  ·exact .inl h1
  ·right; have := hW.size; omega
end


section
open Go.RowKit
set_option maxRecDepth 100000 in
set_option maxHeartbeats 4000000 in
theorem world_Do_full (g B n : Nat) (ss rs : List Int) (t : Int) (uv : Value) (us : List RLetter) (i k : Nat) (w : World) (h : WorldU w g B n ss rs t uv us) (hi : i < n) (hk : k < n) (hne : i ≠ k) (hl : 40 ≤ us.length) :
  Calls Tryz.prog 93 #[.pointer (some ⟨g, 0, none⟩), .agg #[.int .i64 2, .int .i64 i, .int .i64 k]] w fun e w' => e = .returned (.tuple #[.pointer none, .iface 88 (.int .i64 4)]) ∧ Below w.heap.size w w' := by
 have CH := Lib.hid (fun (j : Nat) (hj : j < n) w' (hb : Below w.heap.size w w') => by have := world_has g n ss rs t uv j w' (h.at.below hb); rw [hasN_nat hj] at this; exact this)
 obtain ⟨A, c, rfl, hAc, hcm⟩ := own_slice h.row
 unfold maxLen at hcm
 have HG := Lib.hid (fun w' (hb : Below w.heap.size w w') => show w'.cell? ⟨g, 3, none⟩ = some (.slice A us.length c) from by
  obtain ⟨gs, cs, gr, cr, k1, _⟩ := (h.below hb).ex
  rw [k1.cell]; rfl)
 have hgw := Nat.lt_of_lt_of_le h.gB h.Bw
 have g1 : (40 : Int) ≤ (us.length : Int) := by omega
 have g2 : ((i : Int) == (k : Int)) = false := by simp; omega
 clear h hne
 go_enter Tryz.func93, Tryz.ntmps93
 go_wp2_with fail
 refine (CH.out i hi _ BeL).mono ?_
 rintro e w1 ⟨rfl, hb1⟩
 have hz1 := hb1.size
 (try simp at hz1)
 have agx : w.heap.size ≤ w.heap.size := by first | omega | (simp; done) | (simp; omega)
 have bx1 : Blk w1 (w.heap.size) 71 #[.int .i64 2, .int .i64 i, .int .i64 k] := BkD
 have cx1_0 : w1.cell? ⟨w.heap.size, 0, none⟩ = some (.int .i64 2) := bx1.cell 0
 have fx1_0 : w1.frozen? ⟨w.heap.size, 0, none⟩ = false := bx1.fz 0
 have cx1_1 : w1.cell? ⟨w.heap.size, 1, none⟩ = some (.int .i64 i) := bx1.cell 1
 have fx1_1 : w1.frozen? ⟨w.heap.size, 1, none⟩ = false := bx1.fz 1
 have cx1_2 : w1.cell? ⟨w.heap.size, 2, none⟩ = some (.int .i64 k) := bx1.cell 2
 have fx1_2 : w1.frozen? ⟨w.heap.size, 2, none⟩ = false := bx1.fz 2
 have lx1 : w.heap.size < w1.heap.size := bx1.lt
 have HB1 : Below w.heap.size w w1 := BeL
 have HZ1 := HB1.size
 clear hb1 hz1
 go_wp2_with fail
 refine (CH.out k hk _ BeL).mono ?_
 rintro e w2 ⟨rfl, hb2⟩
 have hz2 := hb2.size
 (try simp at hz2)
 have bx2 : Blk w2 (w.heap.size) 71 #[.int .i64 2, .int .i64 i, .int .i64 k] := BkD
 have cx2_0 : w2.cell? ⟨w.heap.size, 0, none⟩ = some (.int .i64 2) := bx2.cell 0
 have fx2_0 : w2.frozen? ⟨w.heap.size, 0, none⟩ = false := bx2.fz 0
 have cx2_1 : w2.cell? ⟨w.heap.size, 1, none⟩ = some (.int .i64 i) := bx2.cell 1
 have fx2_1 : w2.frozen? ⟨w.heap.size, 1, none⟩ = false := bx2.fz 1
 have cx2_2 : w2.cell? ⟨w.heap.size, 2, none⟩ = some (.int .i64 k) := bx2.cell 2
 have fx2_2 : w2.frozen? ⟨w.heap.size, 2, none⟩ = false := bx2.fz 2
 have lx2 : w.heap.size < w2.heap.size := bx2.lt
 have HB2 : Below w.heap.size w w2 := BeL
 have HZ2 := HB2.size
 clear hb2 hz2 HB1 HZ1 bx1 lx1 cx1_0 fx1_0 cx1_1 fx1_1 cx1_2 fx1_2 
 have y0 := HG.out w2 HB2
 clear CH
 go_wp2_with fail
 go_ret2
 exact ⟨rfl, HB2⟩
set_option maxRecDepth 100000 in
set_option maxHeartbeats 4000000 in
theorem world_Do_none (g B n : Nat) (ss rs : List Int) (t : Int) (uv : Value) (us : List RLetter) (k a b : Int) (w : World) (h : WorldU w g B n ss rs t uv us) (hk : k = 3 ∨ k = 4 ∨ k = 5) (ha : a < 0 ∨ (us.length : Int) ≤ a) :
  Calls Tryz.prog 93 #[.pointer (some ⟨g, 0, none⟩), .agg #[.int .i64 k, .int .i64 a, .int .i64 b]] w fun e w' => e = .returned (.tuple #[.pointer none, .iface 88 (.int .i64 5)]) ∧ Below w.heap.size w w' := by
 obtain ⟨A, c, rfl, hAc, hcm⟩ := own_slice h.row
 unfold maxLen at hcm
 obtain ⟨gs, cs, gr, cr, k1, _⟩ := h.ex
 have c3 := k1.cell 3
 have kl := k1.lt
 simp at c3
 clear h k1
 have key : ∀ k : Int, (k = 3 ∨ k = 4 ∨ k = 5) → a < 0 ∨ (¬ a < 0 ∧ (us.length : Int) ≤ a) := by intro k _; omega
 rcases key k hk with d1 | ⟨d1, d2⟩
 ·have e1 : decide (a < 0) = true := decide_eq_true d1
  clear ha key
  rcases hk with rfl | rfl | rfl
  all_goals
   as_aux_lemma =>
    go_enter Tryz.func93, Tryz.ntmps93
    go_wp2_with fail
    go_quiet (fail)
    go_wp2_with fail
    go_ret2
    exact ⟨rfl, BeL⟩
 ·have e1 : decide (a < 0) = false := decide_eq_false d1
  clear ha key
  rcases hk with rfl | rfl | rfl
  all_goals
   as_aux_lemma =>
    go_enter Tryz.func93, Tryz.ntmps93
    go_wp2_with fail
    go_quiet (fail)
    go_wp2_with fail
    go_ret2
    exact ⟨rfl, BeL⟩
end


section
open Go.RowKit
theorem row_at {w : World} {B : Nat} {T : TypeId} {v : Value} {us : List RLetter} {j : Nat} {L : RLetter} (ho : w.ownsRow B T 6 v us.length (us.flatMap RLetter.cells)) (hj : us[j]? = some L) :
  ∃ q cap cur, v = .slice (some ⟨q, 0, none⟩) us.length cap ∧ B ≤ q ∧ Blk w q T cur ∧ us.length ≤ cap ∧ cap ≤ maxLen ∧ ∀ d u, (RLetter.cells L)[d]? = some u → cur[j * 6 + d]? = some u := by
 have hjl := (List.getElem?_eq_some_iff.1 hj).1
 rcases ho.2 with ⟨_, hn⟩ | ⟨q, cap, cur, rfl, hB, hg, hnc, hcm, hs, ht⟩
 ·omega
 ·refine ⟨q, cap, cur, rfl, hB, hg, hnc, hcm, fun d u hu => ?_⟩
  have hk : ∀ z : RLetter, (RLetter.cells z).length = 6 := fun _ => rfl
  have hd : d < 6 := by have := (List.getElem?_eq_some_iff.1 hu).1; rw [hk] at this; exact this
  have h1 : (us.flatMap RLetter.cells)[j * 6 + d]? = some u := by
   have h2 := flat_drop RLetter.cells 6 hk us j
   have h3 : us.drop j = L :: us.drop (j + 1) := by rw [List.drop_eq_getElem_cons hjl]; congr 1; exact (List.getElem?_eq_some_iff.1 hj).2
   rw [h3, List.flatMap_cons] at h2
   have h4 : ((us.flatMap RLetter.cells).drop (j * 6))[d]? = some u := by rw [← h2, List.getElem?_append_left (by rw [hk]; exact hd)]; exact hu
   rw [List.getElem?_drop] at h4
   exact h4
  rw [← ht, List.getElem?_take, if_pos (by omega), Array.getElem?_toList] at h1
  exact h1
def Took (w : World) (g B n : Nat) (ss rs : List Int) (t : Int) (uv : Value) (us : List RLetter) (w' : World) : Prop := ∃ uv', WorldU w' g B n ss rs t uv' us ∧ Kept (Mine g uv) w w' ∧ (∀ q, uv'.ownBlock = some q → uv.ownBlock = some q)
theorem Took.sent {w w' : World} {g B n : Nat} {ss rs : List Int} {t : Int} {uv : Value} {us : List RLetter} (h : Took w g B n ss rs t uv us w') : Sent w g B n ss rs t uv us w' := by
 obtain ⟨uv', a, b, c⟩ := h
 exact ⟨uv', a, b, fun q e => .inl (c q e)⟩
theorem del_done {w W w5 : World} {g B n q cap j : Nat} {ss rs : List Int} {t : Int} {us : List RLetter} (h : WorldU w g B n ss rs t (.slice (some ⟨q, 0, none⟩) us.length cap) us) (hW : Below w.heap.size w W) (ht : Touched q W w5)
  (ho5 : w5.ownsRow B 110 6 (.slice (some ⟨q, 0, none⟩) (us.length - 1) cap) (us.length - 1) ((us.eraseIdx j).flatMap RLetter.cells)) : Took w g B n ss rs t (.slice (some ⟨q, 0, none⟩) us.length cap) (us.eraseIdx j) (w5.setCell ⟨g, 3, none⟩ (.slice (some ⟨q, 0, none⟩) (us.length - 1) cap)) := by
 have hlow := h.low q rfl
 have hgB := h.gB
 have hBw := h.Bw
 have hlen : (us.eraseIdx j).length = us.length - 1 := by
  have h6 := ho5.1
  rw [flat_lenK RLetter.cells 6 (fun _ => rfl)] at h6
  omega
 have hK : Kept (Mine g (.slice (some ⟨q, 0, none⟩) us.length cap)) w (w5.setCell ⟨g, 3, none⟩ (.slice (some ⟨q, 0, none⟩) (us.length - 1) cap)) := (((Kept.refl _ w).below hW).touched ht (.inl (.inr rfl))).set g 3 _ (.inl (.inl rfl))
 refine ⟨.slice (some ⟨q, 0, none⟩) (us.length - 1) cap, h.next hK (fun a b k1 => ?_) ?_ ?_ ?_ h.t0 h.t1, hK, fun k e => e⟩
 ·exact (((k1.below hW k1.lt).grown ht (fun e => by have := Option.some.inj e; omega)).set 3 _).conv rfl
 ·rw [hlen]; exact own_touched ho5 ((Touched.refl g w5).set 3 _) hgB
 ·have := h.l40; omega
 ·intro z hz
  exact h.lok z (List.mem_of_mem_eraseIdx hz)
set_option maxRecDepth 100000 in
set_option maxHeartbeats 8000000 in
theorem world_Do_repeat (g B n : Nat) (ss rs : List Int) (t : Int) (uv : Value) (us : List RLetter) (j : Nat) (L : RLetter) (b : Int) (w : World) (h : WorldU w g B n ss rs t uv us) (hj : us[j]? = some L) :
  Calls Tryz.prog 93 #[.pointer (some ⟨g, 0, none⟩), .agg #[.int .i64 5, .int .i64 j, .int .i64 b]] w fun e w' => ∃ p, e = .returned (.tuple #[.pointer (some ⟨p, 0, none⟩), .nilIface]) ∧ w.heap.size ≤ p ∧ Blk w' p 110 (RLetter.cells L).toArray ∧ Below w.heap.size w w' := by
 obtain ⟨q, cap, cur, rfl, hBq, hbq, hnc, hcm, hcells⟩ := row_at h.row hj
 have hjl := (List.getElem?_eq_some_iff.1 hj).1
 have l40 := h.l40
 unfold maxLen at hcm
 obtain ⟨gs, cs, gr, cr, k1, _⟩ := h.ex
 have c3 := k1.cell 3
 have kl := k1.lt
 have ql := hbq.lt
 have hgq : g ≠ q := by have := h.gB; omega
 simp at c3
 have x0 : w.cell? ⟨q, j * 6, none⟩ = some (.int .i64 L.src) := by rw [hbq.cell]; exact hcells 0 _ rfl
 have x1 : w.cell? ⟨q, j * 6 + 1, none⟩ = some (.int .i64 L.dst) := by rw [hbq.cell]; exact hcells 1 _ rfl
 have x2 : w.cell? ⟨q, j * 6 + 2, none⟩ = some (.bool L.answer) := by rw [hbq.cell]; exact hcells 2 _ rfl
 have x3 : w.cell? ⟨q, j * 6 + 3, none⟩ = some (.int .i64 L.t1) := by rw [hbq.cell]; exact hcells 3 _ rfl
 have x4 : w.cell? ⟨q, j * 6 + 4, none⟩ = some (.int .i64 L.t2) := by rw [hbq.cell]; exact hcells 4 _ rfl
 have x5 : w.cell? ⟨q, j * 6 + 5, none⟩ = some (.int .i64 L.t) := by rw [hbq.cell]; exact hcells 5 _ rfl
 have e1 : decide ((j : Int) < 0) = false := by simp
 have e2 : decide ((us.length : Int) ≤ (j : Int)) = false := by simp; omega
 have q0 : (0 : Int) ≤ (j : Int) := by omega
 have q1 : (j : Int) < (us.length : Int) := by omega
 clear h k1 hbq hcells hj
 go_enter Tryz.func93, Tryz.ntmps93
 go_wp2_with fail
 go_quiet (fail)
 go_wp2_with fail
 go_region
 go_wp2_with fail
 go_ret2
 exact ⟨w.heap.size + 1, rfl, by omega, Blk.newAt _ _ _ _ (by simp), BeL⟩
set_option maxRecDepth 100000 in
set_option maxHeartbeats 8000000 in
theorem world_Do_lose (g B n : Nat) (ss rs : List Int) (t : Int) (uv : Value) (us : List RLetter) (j : Nat) (L : RLetter) (b : Int) (w : World) (h : WorldU w g B n ss rs t uv us) (hj : us[j]? = some L) :
  Calls Tryz.prog 93 #[.pointer (some ⟨g, 0, none⟩), .agg #[.int .i64 4, .int .i64 j, .int .i64 b]] w fun e w' => e = .returned (.tuple #[.pointer none, .nilIface]) ∧ Sent w g B n ss rs t uv (us.eraseIdx j) w' := by
 obtain ⟨q, cap, cur, rfl, hBq, hbq, hnc, hcm, hcells⟩ := row_at h.row hj
 have hjl := (List.getElem?_eq_some_iff.1 hj).1
 have l40 := h.l40
 unfold maxLen at hcm
 obtain ⟨gs, cs, gr, cr, k1, _⟩ := h.ex
 have c3 := k1.cell 3
 have kl := k1.lt
 have ql := hbq.lt
 have hgq : g ≠ q := by have := h.gB; omega
 simp at c3
 have x0 : w.cell? ⟨q, j * 6, none⟩ = some (.int .i64 L.src) := by rw [hbq.cell]; exact hcells 0 _ rfl
 have x1 : w.cell? ⟨q, j * 6 + 1, none⟩ = some (.int .i64 L.dst) := by rw [hbq.cell]; exact hcells 1 _ rfl
 have x2 : w.cell? ⟨q, j * 6 + 2, none⟩ = some (.bool L.answer) := by rw [hbq.cell]; exact hcells 2 _ rfl
 have x3 : w.cell? ⟨q, j * 6 + 3, none⟩ = some (.int .i64 L.t1) := by rw [hbq.cell]; exact hcells 3 _ rfl
 have x4 : w.cell? ⟨q, j * 6 + 4, none⟩ = some (.int .i64 L.t2) := by rw [hbq.cell]; exact hcells 4 _ rfl
 have x5 : w.cell? ⟨q, j * 6 + 5, none⟩ = some (.int .i64 L.t) := by rw [hbq.cell]; exact hcells 5 _ rfl
 have e1 : decide ((j : Int) < 0) = false := by simp
 have e2 : decide ((us.length : Int) ≤ (j : Int)) = false := by simp; omega
 have q0 : (0 : Int) ≤ (j : Int) := by omega
 have q1 : (j : Int) < (us.length : Int) := by omega
 have HU := Lib.hid h
 have q2 := IntWalk.i64_in ((j : Int) + 1) (by omega)
 have CD := Lib.hid (fun w' (hb : Below w.heap.size w w') => letters_Delete q us.length cap j B us w' (own_below HU.out.row hb) rfl hjl (by omega))
 clear h k1 hbq hcells hj
 go_enter Tryz.func93, Tryz.ntmps93
 go_wp2_with fail
 go_quiet (fail)
 go_wp2_with fail
 go_region
 obtain ⟨W2, hW2⟩ : ∃ W2, W2 = (((w.alloc (.cells #[.int .i64 4, .int .i64 j, .int .i64 b] 71)).drewN (nq + 1)).alloc (.cells #[.int .i64 L.src, .int .i64 L.dst, .bool L.answer, .int .i64 L.t1, .int .i64 L.t2, .int .i64 L.t] 110)) := ⟨_, rfl⟩
 have HB2 : Below w.heap.size w W2 := by rw [hW2]; exact BeL
 have bx : Blk W2 w.heap.size 71 #[.int .i64 4, .int .i64 j, .int .i64 b] := by rw [hW2]; exact ((Blk.new w _ _).drewN _).alloc _
 have bp : Blk W2 (w.heap.size + 1) 110 (RLetter.cells L).toArray := by rw [hW2]; exact Blk.newAt _ _ _ _ (by simp)
 have hs2 : W2.heap.size = w.heap.size + 2 := by rw [hW2]; simp
 rw [← hW2]
 clear hW2 x0 x1 x2 x3 x4 x5
 have y0 : W2.cell? ⟨g, 3, none⟩ = some (.slice (some ⟨q, 0, none⟩) us.length cap) := (HB2.cell (p := ⟨g, 3, none⟩) kl).trans c3
 have y1 : W2.frozen? ⟨g, 3, none⟩ = false := by obtain ⟨_, _, _, _, kk, _⟩ := (HU.out.below HB2).ex; exact kk.fz 3
 have z0 : W2.cell? ⟨w.heap.size, 0, none⟩ = some (.int .i64 4) := bx.cell 0
 have z1 : W2.cell? ⟨w.heap.size, 1, none⟩ = some (.int .i64 j) := bx.cell 1
 go_wp2_with fail
 refine wp_region_held_drew (S := fun w9 => w9.cell? ⟨w.heap.size, 1, none⟩ = some (.int .i64 j)) kRf (z1) (fun hHeld => ?_)
 refine tkH 0 (.pointer (some ⟨g, 0, none⟩)) (some 117) rfl hHeld ?_
 try simp only [Act.put,sI_,sZ_,sS_]
 refine tkH 1 (.pointer (some ⟨g, 0, none⟩)) (some 118) rfl hHeld ?_
 try simp only [Act.put,sI_,sZ_,sS_]
 refine tkH 2 (.pointer (some ⟨g, 0, none⟩)) (some 119) rfl hHeld ?_
 try simp only [Act.put,sI_,sZ_,sS_]
 refine tkH 3 (.pointer (some ⟨g, 3, none⟩)) (some 120) rfl hHeld ?_
 try simp only [Act.put,sI_,sZ_,sS_]
 refine tkH 5 (.pointer (some ⟨w.heap.size, 1, none⟩)) (some 122) rfl hHeld ?_
 try simp only [Act.put,sI_,sZ_,sS_]
 refine tkH 6 (.int .i64 j) (some 123) rfl hHeld ?_
 try simp only [Act.put,sI_,sZ_,sS_]
 refine tkH 7 (.pointer (some ⟨w.heap.size, 1, none⟩)) (some 124) rfl hHeld ?_
 try simp only [Act.put,sI_,sZ_,sS_]
 refine tkH 8 (.int .i64 j) (some 125) rfl hHeld ?_
 try simp only [Act.put,sI_,sZ_,sS_]
 refine tkH 9 (.int .i64 ((j : Int) + 1)) (some 126) rfl hHeld ?_
 try simp only [Act.put,sI_,sZ_,sS_]
 try simp only [Act.put,sI_,sZ_,sS_]
 refine wpAnyH_ready (rs := [4]) kRf (by simp) ?_
 refine AllReadyH.cons rfl (fun K hK => ?_) AllReadyH.nil
 go_simp
 refine hK.out _ _ (hHeld) (fun hHeld2 => ?_)
 clear hK K hHeld
 have hHeld := hHeld2
 clear hHeld2
 try simp only [Act.put,sI_,sZ_,sS_]
 try simp only [Act.put,sI_,sZ_,sS_]
 refine wpAnyH_ready (rs := [10]) kRf (by simp) ?_
 refine AllReadyH.cons rfl (fun K hK => ?_) AllReadyH.nil
 go_simp
 refine (CD.out _ HB2.drew).mono ?_
 rintro e w5 ⟨rfl, ho5, ht5⟩
 have ht6 : Touched q W2 w5 := Touched.trans ht5 (Touched.refl q W2).drew
 have u3 : w5.cell? ⟨g, 3, none⟩ = some (.slice (some ⟨q, 0, none⟩) us.length cap) := (ht6.cell (by omega) hgq 3).trans y0
 have u4 : w5.frozen? ⟨g, 3, none⟩ = false := (World.frozen?_of_block (ht6.block g (by omega) (fun e => hgq (Option.some.inj e)))).trans y1
 refine hK.out _ _ ((ht6.cell (by omega) (by omega) 1).trans z1) (fun hHeld2 => ?_)
 clear hK K hHeld
 have hHeld := hHeld2
 clear hHeld2
 try simp only [Act.put,sI_,sZ_,sS_]
 refine tkH 11 (.pointer (some ⟨g, 0, none⟩)) (some 128) rfl hHeld ?_
 try simp only [Act.put,sI_,sZ_,sS_]
 refine tkH 12 (.pointer (some ⟨g, 3, none⟩)) (some 129) rfl hHeld ?_
 try simp only [Act.put,sI_,sZ_,sS_]
 try simp only [Act.put,sI_,sZ_,sS_]
 refine wpAnyH_ready (rs := [13]) kRf (by simp) ?_
 refine AllReadyH.cons rfl (fun K hK => ?_) AllReadyH.nil
 go_simp
 refine hK.out _ _ ((World.cell?_setCell_other _ _ _ _ (fun e => by have := congrArg Addr.block e; simp at this; omega)).trans hHeld) (fun hHeld2 => ?_)
 clear hK K hHeld
 have hHeld := hHeld2
 clear hHeld2
 try simp only [Act.put,sI_,sZ_,sS_]
 refine wpAnyH_done kRf ?_ _
 try simp only [Act.put,sI_,sZ_,sS_]
 have v0 : (w5.setCell ⟨g, 3, none⟩ (.slice (some ⟨q, 0, none⟩) (us.length - 1) cap)).cell? ⟨w.heap.size, 0, none⟩ = some (.int .i64 4) := (World.cell?_setCell_other _ _ _ _ (fun e => by have := congrArg Addr.block e; simp at this; omega)).trans ((ht6.cell (by omega) (by omega) 0).trans z0)
 have hD := del_done HU.out HB2 ht6 ho5
 have hP : Blk (w5.setCell ⟨g, 3, none⟩ (.slice (some ⟨q, 0, none⟩) (us.length - 1) cap)) (w.heap.size + 1) 110 (RLetter.cells L).toArray := (bp.grown ht6 (fun e => by have := Option.some.inj e; omega)).far (by show w.heap.size + 1 ≠ g; omega) _
 have HD := Lib.hid hD
 have HP := Lib.hid hP
 clear hD hP ho5 ht5 ht6 y0 y1 z0 z1 u3 u4 bx bp CD
 go_wp2_with fail
 go_ret2
 exact ⟨rfl, HD.out.sent⟩
set_option maxRecDepth 100000 in
set_option maxHeartbeats 8000000 in
theorem world_Do_deliver (g B n : Nat) (ss rs : List Int) (t : Int) (uv : Value) (us : List RLetter) (j : Nat) (L : RLetter) (b : Int) (w : World) (h : WorldU w g B n ss rs t uv us) (hj : us[j]? = some L) :
  Calls Tryz.prog 93 #[.pointer (some ⟨g, 0, none⟩), .agg #[.int .i64 3, .int .i64 j, .int .i64 b]] w fun e w' => ∃ p, e = .returned (.tuple #[.pointer (some ⟨p, 0, none⟩), .nilIface]) ∧ w.heap.size ≤ p ∧ Blk w' p 110 (RLetter.cells L).toArray ∧ Took w g B n ss rs t uv (us.eraseIdx j) w' := by
 obtain ⟨q, cap, cur, rfl, hBq, hbq, hnc, hcm, hcells⟩ := row_at h.row hj
 have hjl := (List.getElem?_eq_some_iff.1 hj).1
 have l40 := h.l40
 unfold maxLen at hcm
 obtain ⟨gs, cs, gr, cr, k1, _⟩ := h.ex
 have c3 := k1.cell 3
 have kl := k1.lt
 have ql := hbq.lt
 have hgq : g ≠ q := by have := h.gB; omega
 simp at c3
 have x0 : w.cell? ⟨q, j * 6, none⟩ = some (.int .i64 L.src) := by rw [hbq.cell]; exact hcells 0 _ rfl
 have x1 : w.cell? ⟨q, j * 6 + 1, none⟩ = some (.int .i64 L.dst) := by rw [hbq.cell]; exact hcells 1 _ rfl
 have x2 : w.cell? ⟨q, j * 6 + 2, none⟩ = some (.bool L.answer) := by rw [hbq.cell]; exact hcells 2 _ rfl
 have x3 : w.cell? ⟨q, j * 6 + 3, none⟩ = some (.int .i64 L.t1) := by rw [hbq.cell]; exact hcells 3 _ rfl
 have x4 : w.cell? ⟨q, j * 6 + 4, none⟩ = some (.int .i64 L.t2) := by rw [hbq.cell]; exact hcells 4 _ rfl
 have x5 : w.cell? ⟨q, j * 6 + 5, none⟩ = some (.int .i64 L.t) := by rw [hbq.cell]; exact hcells 5 _ rfl
 have e1 : decide ((j : Int) < 0) = false := by simp
 have e2 : decide ((us.length : Int) ≤ (j : Int)) = false := by simp; omega
 have q0 : (0 : Int) ≤ (j : Int) := by omega
 have q1 : (j : Int) < (us.length : Int) := by omega
 have HU := Lib.hid h
 have q2 := IntWalk.i64_in ((j : Int) + 1) (by omega)
 have CD := Lib.hid (fun w' (hb : Below w.heap.size w w') => letters_Delete q us.length cap j B us w' (own_below HU.out.row hb) rfl hjl (by omega))
 clear h k1 hbq hcells hj
 go_enter Tryz.func93, Tryz.ntmps93
 go_wp2_with fail
 go_quiet (fail)
 go_wp2_with fail
 go_region
 obtain ⟨W2, hW2⟩ : ∃ W2, W2 = (((w.alloc (.cells #[.int .i64 3, .int .i64 j, .int .i64 b] 71)).drewN (nq + 1)).alloc (.cells #[.int .i64 L.src, .int .i64 L.dst, .bool L.answer, .int .i64 L.t1, .int .i64 L.t2, .int .i64 L.t] 110)) := ⟨_, rfl⟩
 have HB2 : Below w.heap.size w W2 := by rw [hW2]; exact BeL
 have bx : Blk W2 w.heap.size 71 #[.int .i64 3, .int .i64 j, .int .i64 b] := by rw [hW2]; exact ((Blk.new w _ _).drewN _).alloc _
 have bp : Blk W2 (w.heap.size + 1) 110 (RLetter.cells L).toArray := by rw [hW2]; exact Blk.newAt _ _ _ _ (by simp)
 have hs2 : W2.heap.size = w.heap.size + 2 := by rw [hW2]; simp
 rw [← hW2]
 clear hW2 x0 x1 x2 x3 x4 x5
 have y0 : W2.cell? ⟨g, 3, none⟩ = some (.slice (some ⟨q, 0, none⟩) us.length cap) := (HB2.cell (p := ⟨g, 3, none⟩) kl).trans c3
 have y1 : W2.frozen? ⟨g, 3, none⟩ = false := by obtain ⟨_, _, _, _, kk, _⟩ := (HU.out.below HB2).ex; exact kk.fz 3
 have z0 : W2.cell? ⟨w.heap.size, 0, none⟩ = some (.int .i64 3) := bx.cell 0
 have z1 : W2.cell? ⟨w.heap.size, 1, none⟩ = some (.int .i64 j) := bx.cell 1
 go_wp2_with fail
 refine wp_region_held_drew (S := fun w9 => w9.cell? ⟨w.heap.size, 1, none⟩ = some (.int .i64 j)) kRf (z1) (fun hHeld => ?_)
 refine tkH 0 (.pointer (some ⟨g, 0, none⟩)) (some 117) rfl hHeld ?_
 try simp only [Act.put,sI_,sZ_,sS_]
 refine tkH 1 (.pointer (some ⟨g, 0, none⟩)) (some 118) rfl hHeld ?_
 try simp only [Act.put,sI_,sZ_,sS_]
 refine tkH 2 (.pointer (some ⟨g, 0, none⟩)) (some 119) rfl hHeld ?_
 try simp only [Act.put,sI_,sZ_,sS_]
 refine tkH 3 (.pointer (some ⟨g, 3, none⟩)) (some 120) rfl hHeld ?_
 try simp only [Act.put,sI_,sZ_,sS_]
 refine tkH 5 (.pointer (some ⟨w.heap.size, 1, none⟩)) (some 122) rfl hHeld ?_
 try simp only [Act.put,sI_,sZ_,sS_]
 refine tkH 6 (.int .i64 j) (some 123) rfl hHeld ?_
 try simp only [Act.put,sI_,sZ_,sS_]
 refine tkH 7 (.pointer (some ⟨w.heap.size, 1, none⟩)) (some 124) rfl hHeld ?_
 try simp only [Act.put,sI_,sZ_,sS_]
 refine tkH 8 (.int .i64 j) (some 125) rfl hHeld ?_
 try simp only [Act.put,sI_,sZ_,sS_]
 refine tkH 9 (.int .i64 ((j : Int) + 1)) (some 126) rfl hHeld ?_
 try simp only [Act.put,sI_,sZ_,sS_]
 try simp only [Act.put,sI_,sZ_,sS_]
 refine wpAnyH_ready (rs := [4]) kRf (by simp) ?_
 refine AllReadyH.cons rfl (fun K hK => ?_) AllReadyH.nil
 go_simp
 refine hK.out _ _ (hHeld) (fun hHeld2 => ?_)
 clear hK K hHeld
 have hHeld := hHeld2
 clear hHeld2
 try simp only [Act.put,sI_,sZ_,sS_]
 try simp only [Act.put,sI_,sZ_,sS_]
 refine wpAnyH_ready (rs := [10]) kRf (by simp) ?_
 refine AllReadyH.cons rfl (fun K hK => ?_) AllReadyH.nil
 go_simp
 refine (CD.out _ HB2.drew).mono ?_
 rintro e w5 ⟨rfl, ho5, ht5⟩
 have ht6 : Touched q W2 w5 := Touched.trans ht5 (Touched.refl q W2).drew
 have u3 : w5.cell? ⟨g, 3, none⟩ = some (.slice (some ⟨q, 0, none⟩) us.length cap) := (ht6.cell (by omega) hgq 3).trans y0
 have u4 : w5.frozen? ⟨g, 3, none⟩ = false := (World.frozen?_of_block (ht6.block g (by omega) (fun e => hgq (Option.some.inj e)))).trans y1
 refine hK.out _ _ ((ht6.cell (by omega) (by omega) 1).trans z1) (fun hHeld2 => ?_)
 clear hK K hHeld
 have hHeld := hHeld2
 clear hHeld2
 try simp only [Act.put,sI_,sZ_,sS_]
 refine tkH 11 (.pointer (some ⟨g, 0, none⟩)) (some 128) rfl hHeld ?_
 try simp only [Act.put,sI_,sZ_,sS_]
 refine tkH 12 (.pointer (some ⟨g, 3, none⟩)) (some 129) rfl hHeld ?_
 try simp only [Act.put,sI_,sZ_,sS_]
 try simp only [Act.put,sI_,sZ_,sS_]
 refine wpAnyH_ready (rs := [13]) kRf (by simp) ?_
 refine AllReadyH.cons rfl (fun K hK => ?_) AllReadyH.nil
 go_simp
 refine hK.out _ _ ((World.cell?_setCell_other _ _ _ _ (fun e => by have := congrArg Addr.block e; simp at this; omega)).trans hHeld) (fun hHeld2 => ?_)
 clear hK K hHeld
 have hHeld := hHeld2
 clear hHeld2
 try simp only [Act.put,sI_,sZ_,sS_]
 refine wpAnyH_done kRf ?_ _
 try simp only [Act.put,sI_,sZ_,sS_]
 have v0 : (w5.setCell ⟨g, 3, none⟩ (.slice (some ⟨q, 0, none⟩) (us.length - 1) cap)).cell? ⟨w.heap.size, 0, none⟩ = some (.int .i64 3) := (World.cell?_setCell_other _ _ _ _ (fun e => by have := congrArg Addr.block e; simp at this; omega)).trans ((ht6.cell (by omega) (by omega) 0).trans z0)
 have hD := del_done HU.out HB2 ht6 ho5
 have hP : Blk (w5.setCell ⟨g, 3, none⟩ (.slice (some ⟨q, 0, none⟩) (us.length - 1) cap)) (w.heap.size + 1) 110 (RLetter.cells L).toArray := (bp.grown ht6 (fun e => by have := Option.some.inj e; omega)).far (by show w.heap.size + 1 ≠ g; omega) _
 have HD := Lib.hid hD
 have HP := Lib.hid hP
 clear hD hP ho5 ht5 ht6 y0 y1 z0 z1 u3 u4 bx bp CD
 go_wp2_with fail
 go_ret2
 exact ⟨w.heap.size + 1, rfl, by omega, HP.out, HD.out⟩
end


section
open Go.RowKit
theorem Node_any (n i : Int) (w : World) : Calls Tryz.prog 57 #[.int .i64 n, .int .i64 i] w fun e w' => e = .returned (.bool (nodeB n i)) ∧ w = w' := by
 go_enter Tryz.func57, Tryz.ntmps57
 go_wp2
 all_goals
  go_ret
  exact ⟨ret_bool (by simp [nodeB]; try omega), rfl⟩
set_option maxHeartbeats 2000000 in
theorem bounds_Check (N : Int) (A : Option Addr) (n c : Nat) (zs : List REdge) (w : World) (hz : IsRecs w REdge.cells REdge.ok 4 A n c zs) :
  Calls Tryz.prog 137 #[.int .i64 N, .slice A n c] w fun e w' => e = .returned (errV (edgesC N zs)) ∧ Below w.heap.size w w' := by
 obtain ⟨l1, l2, l3, l4, l5⟩ := hz
 unfold maxLen at l3
 have L1 := Lib.hid l1
 have L5 := Lib.hid l5
 clear l4 l5
 by_cases c1 : N < 1
 ·have s1 := Lib.hid (show edgesC N zs = 1 by unfold edgesC; rw [if_pos (.inl c1)])
  clear l1
  go_enter Tryz.func137, Tryz.ntmps137
  go_wp2_with fail
  go_ret
  exact ⟨by rw [s1.out]; rfl, Below.refl _ _⟩
 by_cases c2 : 6 < N
 ·have s1 := Lib.hid (show edgesC N zs = 1 by unfold edgesC; rw [if_pos (.inr c2)])
  clear l1
  go_enter Tryz.func137, Tryz.ntmps137
  go_wp2_with fail
  go_ret
  exact ⟨by rw [s1.out]; rfl, Below.refl _ _⟩
 by_cases c3 : 40 < n
 ·have s1 := Lib.hid (show edgesC N zs = 4 by unfold edgesC; rw [if_neg (by omega), if_pos (by omega)])
  have c4 : decide ((40 : Int) < (n : Int)) = true := by simp; omega
  clear l1
  go_enter Tryz.func137, Tryz.ntmps137
  go_wp2_with fail
  go_ret
  exact ⟨by rw [s1.out]; rfl, Below.refl _ _⟩
 have S1 := Lib.hid (show edgesC N zs = edgesGo N zs by unfold edgesC; rw [if_neg (by omega), if_neg (by omega)])
 have c4 : decide ((40 : Int) < (n : Int)) = false := by simp; omega
 clear l1
 go_enter Tryz.func137, Tryz.ntmps137
 go_wp2_with fail
 go_loopw [22] (fun kv wr => ∃ k : Nat, kv = .int .i64 k ∧ k ≤ n ∧ edgesGo N (zs.drop k) = edgesGo N zs ∧ Below w.heap.size w wr) (fun kv _ => n - (intOf kv).toNat)
 case atStart => exact ⟨0, rfl, by omega, rfl, Below.refl _ _⟩
 case round =>
  obtain ⟨k, rfl, hk, hd, hB⟩ := hrel
  have HD := Lib.hid hd
  have HB := Lib.hid hB
  have hzw := hB.size
  clear hd hB
  by_cases d1 : k < n
  ·obtain ⟨b, off, rfl, hb, hc⟩ := L5.out (by omega)
   obtain ⟨z, hz⟩ : ∃ z, zs[k]? = some z := ⟨_, List.getElem?_eq_getElem (by rw [L1.out]; omega)⟩
   have x0 := (HB.out.cell (p := ⟨b, off + k * 4, none⟩) hb).trans (hc k z hz 0 _ rfl)
   have x1 := (HB.out.cell (p := ⟨b, off + k * 4 + 1, none⟩) hb).trans (hc k z hz 1 _ rfl)
   have x2 := (HB.out.cell (p := ⟨b, off + k * 4 + 2, none⟩) hb).trans (hc k z hz 2 _ rfl)
   have x3 := (HB.out.cell (p := ⟨b, off + k * 4 + 3, none⟩) hb).trans (hc k z hz 3 _ rfl)
   have HG := Lib.hid ((edgesGo_at (n := N) hz).symm.trans HD.out)
   have n2' : b < wr.heap.size := by omega
   clear hc hz
   by_cases e1 : nodeB N z.a = true
   ·by_cases e2 : nodeB N z.b = true
    ·by_cases e3 : z.a = z.b
     ·have s1 := Lib.hid (show edgesGo N zs = 3 by rw [← HG.out, show edgeC N z = 3 by simp [edgeC, e1, e2, e3]]; rfl)
      have e4 : (z.a == z.b) = true := by simpa using e3
      clear e3
      go_wp2_with (go_at_call 57; refine (Node_any _ _ _).mono ?_; rintro e w' ⟨rfl, rfl⟩)
      go_ret
      exact ⟨by rw [S1.out, s1.out]; rfl, by have := HB.out; exact BeL⟩
     ·have e4 : (z.a == z.b) = false := by simpa using e3
      by_cases e5 : rightB z.lo z.hi = true
      ·have s1 := Lib.hid (show edgeC N z = 0 by simp [edgeC, e1, e2, e3, e5, okC])
       have s2 := Lib.hid (show edgesGo N (zs.drop (k + 1)) = edgesGo N zs by rw [← HG.out, if_pos s1.out])
       clear e3
       go_wp2_with (first | (go_at_call 57; refine (Node_any _ _ _).mono ?_; rintro e w' ⟨rfl, rfl⟩) | (go_at_call 31; refine (Right_any _ _ _).mono ?_; rintro e w1 ⟨rfl, hb1⟩; obtain ⟨hc1, hf1⟩ := bcell hb1; have hz1 := hb1.size; (try simp at hz1); (try have := q00_ w w1); (try have := q02_ w w1); (try have := q03_ w w1); (try have := q10_ w w1); (try have := q12_ w w1); (try have := q13_ w w1); (try have := q20_ w w1); (try have := q22_ w w1); (try have := q23_ w w1); (try have := q30_ w w1); (try have := q32_ w w1); (try have := q33_ w w1)))
       go_roundw
       case rel => exact ⟨k + 1, by go_num, by omega, s2.out, by have := HB.out; exact BeL⟩
       case measure => simp [intOf]; omega
      ·have s1 := Lib.hid (show edgesGo N zs = 1 by rw [← HG.out, show edgeC N z = 1 by simp [edgeC, e1, e2, e3, e5, okC]]; rfl)
       have e5 : rightB z.lo z.hi = false := by simpa using e5
       clear e3
       go_wp2_with (first | (go_at_call 57; refine (Node_any _ _ _).mono ?_; rintro e w' ⟨rfl, rfl⟩) | (go_at_call 31; refine (Right_any _ _ _).mono ?_; rintro e w1 ⟨rfl, hb1⟩; obtain ⟨hc1, hf1⟩ := bcell hb1; have hz1 := hb1.size; (try simp at hz1); (try have := q00_ w w1); (try have := q02_ w w1); (try have := q03_ w w1); (try have := q10_ w w1); (try have := q12_ w w1); (try have := q13_ w w1); (try have := q20_ w w1); (try have := q22_ w w1); (try have := q23_ w w1); (try have := q30_ w w1); (try have := q32_ w w1); (try have := q33_ w w1)))
       go_ret
       exact ⟨by rw [S1.out, s1.out]; rfl, by have := HB.out; exact BeL⟩
    ·have s1 := Lib.hid (show edgesGo N zs = 1 by rw [← HG.out, show edgeC N z = 1 by simp [edgeC, e1, e2]]; rfl)
     have e2 : nodeB N z.b = false := by simpa using e2
     go_wp2_with (go_at_call 57; refine (Node_any _ _ _).mono ?_; rintro e w' ⟨rfl, rfl⟩)
     go_ret
     exact ⟨by rw [S1.out, s1.out]; rfl, by have := HB.out; exact BeL⟩
   ·have s1 := Lib.hid (show edgesGo N zs = 1 by rw [← HG.out, show edgeC N z = 1 by simp [edgeC, e1]]; rfl)
    have e1 : nodeB N z.a = false := by simpa using e1
    go_wp2_with (go_at_call 57; refine (Node_any _ _ _).mono ?_; rintro e w' ⟨rfl, rfl⟩)
    go_ret
    exact ⟨by rw [S1.out, s1.out]; rfl, by have := HB.out; exact BeL⟩
  ·have s1 := Lib.hid (show edgesGo N zs = 0 by rw [← HD.out]; exact edgesGo_end (by rw [L1.out]; omega))
   go_wp2_with fail
   go_ret
   exact ⟨by rw [S1.out, s1.out]; rfl, HB.out⟩
end


section
open Go.RowKit
def spanAt (s : NSt) (here : Int) (i : Nat) : RSpan := match s.f i with | some k => ⟨ageL k s.p here, ageH k s.p here⟩ | none => ⟨0, 0⟩
def hasAt (s : NSt) (i : Nat) : Bool := match s.f i with | some _ => true | none => decide (i = s.id)
def farAt (s : NSt) (here : Int) (i : Nat) : Bool := match s.f i with | some k => !rightB (ageL k s.p here) (ageH k s.p here) | none => false
def tellC (s : NSt) (here : Int) : Int := if s.backB here = true then 8 else if (List.range s.N).any (farAt s here) = true then 1 else 0
def partS (s : NSt) (here : Int) (i : Nat) : List RSpan := (List.range s.N).map fun j => if j < i then spanAt s here j else ⟨0, 0⟩
def partB (s : NSt) (i : Nat) : List Bool := (List.range s.N).map fun j => if j < i then hasAt s j else false
def tellS (s : NSt) (here : Int) : List RSpan := if tellC s here = 0 then (List.range s.N).map (spanAt s here) else []
def tellB (s : NSt) (here : Int) : List Bool := if tellC s here = 0 then (List.range s.N).map (hasAt s) else []
def edgeAt (s : NSt) (here : Int) (i : Nat) : List REdge := if hasAt s i = true ∧ i ≠ s.id then [⟨s.id, i, (spanAt s here i).lo, (spanAt s here i).hi⟩] else []
def tellE (s : NSt) (here : Int) : List REdge := if tellC s here = 0 then (List.range s.N).flatMap (edgeAt s here) else []
theorem partS_0 (s : NSt) (here : Int) : partS s here 0 = List.replicate s.N ⟨0, 0⟩ := by
 unfold partS
 simp [List.map_const']
theorem partB_0 (s : NSt) : partB s 0 = List.replicate s.N false := by
 unfold partB
 simp [List.map_const']
theorem partS_len (s : NSt) (here : Int) (i : Nat) : (partS s here i).length = s.N := by simp [partS]
theorem partB_len (s : NSt) (i : Nat) : (partB s i).length = s.N := by simp [partB]
theorem partS_get {s : NSt} {here : Int} {i j : Nat} (hj : j < s.N) : (partS s here i)[j]? = some (if j < i then spanAt s here j else ⟨0, 0⟩) := by
 unfold partS; rw [List.getElem?_map, List.getElem?_range hj]; rfl
theorem partB_get {s : NSt} {i j : Nat} (hj : j < s.N) : (partB s i)[j]? = some (if j < i then hasAt s j else false) := by
 unfold partB; rw [List.getElem?_map, List.getElem?_range hj]; rfl
theorem partS_set {s : NSt} {here : Int} {i : Nat} (hi : i < s.N) : (partS s here i).set i (spanAt s here i) = partS s here (i + 1) := by
 apply List.ext_getElem?
 intro j
 by_cases hj : j < s.N
 ·rw [List.getElem?_set, partS_get hj, partS_get hj, partS_len]
  by_cases c : i = j
  ·subst c; rw [if_pos rfl, if_pos hi, if_pos (by omega)]
  ·rw [if_neg c]
   by_cases c2 : j < i
   ·rw [if_pos c2, if_pos (by omega)]
   ·rw [if_neg c2, if_neg (by omega)]
 ·rw [List.getElem?_eq_none (by rw [List.length_set, partS_len]; omega), List.getElem?_eq_none (by rw [partS_len]; omega)]
theorem partS_skip {s : NSt} {here : Int} {i : Nat} (hf : s.f i = none) : partS s here (i + 1) = partS s here i := by
 unfold partS
 apply List.map_congr_left
 intro j _
 by_cases c : j < i
 ·rw [if_pos c, if_pos (by omega)]
 ·rw [if_neg c]
  by_cases c2 : j = i
  ·subst c2; rw [if_pos (by omega)]; unfold spanAt; rw [hf]
  ·rw [if_neg (by omega)]
theorem partB_set {s : NSt} {i : Nat} (hi : i < s.N) : (partB s i).set i (hasAt s i) = partB s (i + 1) := by
 apply List.ext_getElem?
 intro j
 by_cases hj : j < s.N
 ·rw [List.getElem?_set, partB_get hj, partB_get hj, partB_len]
  by_cases c : i = j
  ·subst c; rw [if_pos rfl, if_pos hi, if_pos (by omega)]
  ·rw [if_neg c]
   by_cases c2 : j < i
   ·rw [if_pos c2, if_pos (by omega)]
   ·rw [if_neg c2, if_neg (by omega)]
 ·rw [List.getElem?_eq_none (by rw [List.length_set, partB_len]; omega), List.getElem?_eq_none (by rw [partB_len]; omega)]
theorem partS_all {s : NSt} {here : Int} (h : tellC s here = 0) : partS s here s.N = tellS s here := by
 unfold tellS partS
 rw [if_pos h]
 apply List.map_congr_left
 intro j hj
 rw [if_pos (List.mem_range.1 hj)]
theorem partB_all {s : NSt} {here : Int} (h : tellC s here = 0) : partB s s.N = tellB s here := by
 unfold tellB partB
 rw [if_pos h]
 apply List.map_congr_left
 intro j hj
 rw [if_pos (List.mem_range.1 hj)]
theorem tell_far {s : NSt} {here : Int} {i : Nat} (hb : s.backB here = false) (hi : i < s.N) (h : farAt s here i = true) : tellC s here = 1 := by
 unfold tellC
 rw [hb, if_neg (by simp), if_pos]
 rw [List.any_eq_true]
 exact ⟨i, List.mem_range.2 hi, h⟩
theorem tell_ok {s : NSt} {here : Int} (hb : s.backB here = false) (h : ∀ i, i < s.N → farAt s here i = false) : tellC s here = 0 := by
 unfold tellC
 rw [hb, if_neg (by simp), if_neg]
 rw [List.any_eq_true]
 rintro ⟨i, hi, hf⟩
 rw [h i (List.mem_range.1 hi)] at hf
 cases hf
theorem tell_back {s : NSt} {here : Int} (hb : s.backB here = true) : tellC s here = 8 := by unfold tellC; rw [if_pos hb]
theorem tell_3 (s : NSt) (here : Int) : (tellC s here = 8 ∧ s.backB here = true) ∨ (tellC s here = 1 ∧ s.backB here = false) ∨ (tellC s here = 0 ∧ s.backB here = false ∧ ∀ i, i < s.N → farAt s here i = false) := by
 cases hb : s.backB here
 ·right
  by_cases h : ∀ i, i < s.N → farAt s here i = false
  ·right; exact ⟨tell_ok hb h, rfl, h⟩
  ·left
   have : ∃ i, i < s.N ∧ farAt s here i = true := by
    by_cases c : ∃ i, i < s.N ∧ farAt s here i = true
    ·exact c
    ·exfalso; apply h; intro i hi
     cases hf : farAt s here i
     ·rfl
     ·exact absurd ⟨i, hi, hf⟩ c
   obtain ⟨i, hi, hf⟩ := this
   exact ⟨tell_far hb hi hf, rfl⟩
 ·left; exact ⟨tell_back hb, rfl⟩
theorem spanAt_bd {s : NSt} {here : Int} {i : Nat} (h : s.Ok) (hb : s.backB here = false) : -2000000000000 ≤ (spanAt s here i).lo ∧ (spanAt s here i).lo ≤ 2000000000000 ∧ -2000000000000 ≤ (spanAt s here i).hi ∧ (spanAt s here i).hi ≤ 2000000000000 := by
 unfold spanAt
 cases hf : s.f i with
 | none => simp
 | some k =>
  obtain ⟨a, b, c, d, e, f, g⟩ := age_bd h hf hb
  simp only [ageL, ageH]
  omega
theorem spans_ok {s : NSt} {here : Int} (h : s.Ok) (hb : s.backB here = false) (i : Nat) : ∀ z ∈ partS s here i, z.ok := by
 intro z hz
 obtain ⟨j, hj, rfl⟩ := List.mem_map.1 hz
 have := spanAt_bd (i := j) h hb
 split
 ·unfold RSpan.ok i64B; omega
 ·exact ⟨by unfold i64B; simp, by unfold i64B; simp⟩
theorem edgeAt_ok {s : NSt} {here : Int} (h : s.Ok) (hb : s.backB here = false) {i : Nat} (hi : i < s.N) : ∀ z ∈ edgeAt s here i, z.ok := by
 intro z hz
 unfold edgeAt at hz
 split at hz
 ·rw [List.mem_singleton] at hz
  subst hz
  have := spanAt_bd (i := i) h hb
  have := h.n6
  have := h.idN
  unfold REdge.ok i64B
  simp only []
  omega
 ·simp at hz
theorem tellE_ok {s : NSt} {here : Int} (h : s.Ok) : ∀ z ∈ tellE s here, z.ok := by
 intro z hz
 unfold tellE at hz
 rcases tell_3 s here with ⟨h1, _⟩ | ⟨h1, _⟩ | ⟨h1, hb, _⟩
 ·rw [if_neg (by omega)] at hz; cases hz
 ·rw [if_neg (by omega)] at hz; cases hz
 ·rw [if_pos h1] at hz
  obtain ⟨i, hi, hz⟩ := List.mem_flatMap.1 hz
  exact edgeAt_ok h hb (List.mem_range.1 hi) z hz
theorem edgeAt_len (s : NSt) (here : Int) (i : Nat) : (edgeAt s here i).length ≤ 1 := by unfold edgeAt; split <;> simp
theorem flat_le {E : Type} (f : Nat → List E) (hf : ∀ i, (f i).length ≤ 1) (n : Nat) : ((List.range n).flatMap f).length ≤ n := by
 induction n with
 | zero => simp
 | succ n ih => rw [List.range_succ, List.flatMap_append, List.length_append, List.flatMap_cons, List.flatMap_nil, List.append_nil]; have := hf n; omega
theorem tellE_len (s : NSt) (here : Int) : (tellE s here).length ≤ s.N := by
 unfold tellE
 split
 ·exact flat_le _ (edgeAt_len s here) _
 ·simp
end


section
open Go.RowKit
def upL (k : Nat) : List Int := (List.range k).map (fun j : Nat => (j : Int))
theorem upL_len (k : Nat) : (upL k).length = k := by simp [upL]
theorem upL_succ (k : Nat) : upL (k + 1) = upL k ++ [(k : Int)] := by simp [upL, List.range_succ]
theorem upL_at {k j : Nat} (h : j < k) : (upL k)[j]? = some (j : Int) := by
 unfold upL
 rw [List.getElem?_map, List.getElem?_range h]; rfl
theorem bounds_upTo (N : Nat) (w : World) (h1 : 1 ≤ N) (h6 : N ≤ 6) :
  Calls Tryz.prog 164 #[.int .i64 N] w fun e w' => (∃ q cap, e = .returned (.slice (some ⟨q, 0, none⟩) N cap) ∧ (N ≤ cap ∧ cap ≤ 9223372036854775807) ∧ q < w'.heap.size ∧ ∀ j, j < N → w'.cell? ⟨q, j, none⟩ = some (.int .i64 (j : Int))) ∧ Below w.heap.size w w' := by
 obtain ⟨i0, hi, hz0, hz1, hz2⟩ := info_parts infoI
 go_enter Tryz.func164, Tryz.ntmps164
 go_wp2_with fail
 go_loopw [2, 5] (fun lv kv wr => ∃ k : Nat, kv = .int .i64 k ∧ k ≤ N ∧ wr.ownsRow w.heap.size 3 1 lv (upL k).length ((upL k).flatMap intCells) ∧ Below w.heap.size w wr) (fun _ kv _ => N - (intOf kv).toNat)
 case atStart => exact ⟨0, rfl, by omega, own_nil _ _ _ _, Below.refl _ _⟩
 case round =>
  obtain ⟨k, rfl, hk, ho, hB⟩ := hrel
  have HO := Lib.hid ho
  have HB := Lib.hid hB
  have hzw := hB.size
  have hlen := upL_len k
  have HS := Lib.hid (upL_succ k)
  clear ho hB
  by_cases d1 : k < N
  ·obtain ⟨xs, hxs⟩ : ∃ xs, upL k = xs := ⟨_, rfl⟩
   rw [hxs] at HO HS hlen
   have hlen : xs.length ≤ 6 := by omega
   clear hxs
   go_wp2_with (at_builtin; refine wpList_append_own _ rfl _ _ 27 rfl w.heap.size 3 i0 (.int .i64 0) 1 8 Tryz.underlying27 hi hz0 hz1 hz2 rfl (by decide) _ _ _ rfl (HO.out.alloc _) ⟨wr.heap.size, 0, none⟩ 1 1 _ rfl rfl (cell_newAt wr (intCells k) _ _ rfl) (int_one _) (by unfold maxLen; omega) (by omega) (by simp; omega) ?_; intro v' w1 ho1 hg1 _)
   have HB2 := Lib.hid (show Below w.heap.size w w1 from (HB.out.alloc (by omega) _).grown hg1 (by simp; omega) (fun k hk => (HO.out.lt k hk).1))
   have HO2 := Lib.hid (own_snoc intCells (z := (k : Int)) ho1)
   clear ho1 hg1
   go_wp2_with fail
   go_roundw
   case rel => exact ⟨k + 1, by go_num, by omega, by rw [HS.out]; exact HO2.out, HB2.out⟩
   case measure => simp [intOf]; omega
  ·obtain rfl : k = N := by omega
   obtain ⟨q, cap, rfl, q1, q2, q3, q4, q5⟩ := own_ints HO.out (by rw [upL_len]; omega)
   have Q5 := Lib.hid (show ∀ j, j < k → wr.cell? ⟨q, j, none⟩ = some (.int .i64 (j : Int)) from fun j hj => q5 j _ (upL_at hj))
   rw [upL_len] at q3
   unfold maxLen at q4
   clear q5 HO HS
   rw [upL_len]
   clear hlen
   go_wp2_with fail
   go_ret
   exact ⟨⟨q, cap, rfl, ⟨q3, by omega⟩, q2, Q5.out⟩, HB.out⟩
theorem closed_1 (N a B : Nat) (D : Nat → Nat → Int) (w : World) (ha : a < N) (h6 : N ≤ 6) (hM : MatAt w B N 171 27 3 N D) :
  Calls Tryz.prog 165 #[.int .i64 a, .pointer (some ⟨B + 1, 0, none⟩)] w fun e w' => e = .returned (.bool (decide (D a a < 0))) ∧ w = w' := by
 have xb := hM.cbox
 have xs1 := hM.csl (j := a) ha (by omega)
 have xc1 := hM.cat (j := a) (k := a) ha ha
 obtain ⟨v, hv⟩ : ∃ v, D a a = v := ⟨_, rfl⟩
 rw [hv] at xc1 ⊢
 have k0 : (0 : Int) ≤ (a : Int) := by omega
 have k1 : (a : Int) < (N : Int) := by omega
 clear hM hv
 go_enter Tryz.func165, Tryz.ntmps165
 go_wp2_with fail
 go_ret
 exact ⟨rfl, rfl⟩
def negB (N : Nat) (D : Nat → Nat → Int) : Bool := (List.range N).any fun a => decide (D a a < 0)
theorem negB_iff {N : Nat} {D : Nat → Nat → Int} : negB N D = true ↔ ∃ a, a < N ∧ D a a < 0 := by
 unfold negB
 simp [List.any_eq_true]
def IdxP (b : Bool) (w : World) (e : Ending) (w' : World) : Prop := ∃ r : Int, e = .returned (.int .i64 r) ∧ decide (0 ≤ r) = b ∧ w = w'
theorem idx_closed (N B : Nat) (D : Nat → Nat → Int) (q cap : Nat) (w : World) (h6 : N ≤ 6) (hM : MatAt w B N 171 27 3 N D) (hc1 : N ≤ cap) (hc2 : cap ≤ 9223372036854775807)
  (hq : ∀ j, j < N → w.cell? ⟨q, j, none⟩ = some (.int .i64 (j : Int))) :
  Calls Tryz.prog 178 #[.slice (some ⟨q, 0, none⟩) N cap, .func (.func 165) #[] #[.pointer (some ⟨B + 1, 0, none⟩)]] w (IdxP (negB N D) w) := by
 have HM := Lib.hid hM
 have HQ := Lib.hid hq
 clear hM hq
 go_enter Tryz.func178, Tryz.ntmps178
 go_wp2_with fail
 go_loopw [8] (fun kv wr => ∃ k : Nat, kv = .int .i64 k ∧ k ≤ N ∧ (∀ a, a < k → 0 ≤ D a a) ∧ w = wr) (fun kv _ => N - (intOf kv).toNat)
 case atStart => exact ⟨0, rfl, by omega, fun a ha => absurd ha (by omega), rfl⟩
 case round =>
  obtain ⟨k, rfl, hk, hD, rfl⟩ := hrel
  have HD := Lib.hid hD
  clear hD
  by_cases d1 : k < N
  ·have x0 := HQ.out k d1
   have C := Lib.hid (closed_1 N k B D w d1 h6 HM.out)
   obtain ⟨v, hv⟩ : ∃ v, D k k = v := ⟨_, rfl⟩
   rw [hv] at C
   have HV := Lib.hid hv
   clear hv
   by_cases e : v < 0
   ·have e1 : decide (v < 0) = true := by simpa using e
    have HN := Lib.hid (show negB N D = true from negB_iff.2 ⟨k, d1, by rw [HV.out]; exact e⟩)
    go_wp2_with fail
    refine C.out.mono ?_
    rintro e w' ⟨rfl, rfl⟩
    go_wp2_with fail
    go_ret
    exact ⟨k, rfl, by rw [HN.out]; simp, rfl⟩
   ·have e1 : decide (v < 0) = false := by simpa using e
    go_wp2_with fail
    refine C.out.mono ?_
    rintro e w' ⟨rfl, rfl⟩
    go_wp2_with fail
    go_roundw
    case rel => exact ⟨k + 1, by go_num, by omega, fun a ha => by
     by_cases h : a = k
     ·subst h; rw [HV.out]; omega
     ·exact HD.out a (by omega), trivial⟩
    case measure => simp [intOf]; omega
  ·have HN := Lib.hid (show negB N D = false from by
    cases h : negB N D
    ·rfl
    ·obtain ⟨a, ha, hn⟩ := negB_iff.1 h
     have := HD.out a (by omega)
     omega)
   go_wp2_with fail
   go_ret
   exact ⟨-1, rfl, by rw [HN.out]; rfl, rfl⟩
theorem has_closed (N B : Nat) (D : Nat → Nat → Int) (q cap : Nat) (w : World) (h6 : N ≤ 6) (hM : MatAt w B N 171 27 3 N D) (hc1 : N ≤ cap) (hc2 : cap ≤ 9223372036854775807)
  (hq : ∀ j, j < N → w.cell? ⟨q, j, none⟩ = some (.int .i64 (j : Int))) :
  Calls Tryz.prog 163 #[.slice (some ⟨q, 0, none⟩) N cap, .func (.func 165) #[] #[.pointer (some ⟨B + 1, 0, none⟩)]] w fun e w' => e = .returned (.bool (negB N D)) ∧ w = w' := by
 have C := Lib.hid (idx_closed N B D q cap w h6 hM hc1 hc2 hq)
 clear hM hq
 go_enter Tryz.func163, Tryz.ntmps163
 go_wp2_with fail
 refine C.out.mono ?_
 rintro e w' ⟨r, rfl, hr, rfl⟩
 have HR := Lib.hid hr
 clear hr
 go_wp2_with fail
 go_ret
 exact ⟨ret_bool HR.out, rfl⟩
def ClosedP (N : Nat) (zs : List REdge) (w w' : World) (e : Ending) : Prop :=
 ∃ (D : Nat → Nat → Int) (ok : Bool), e = .returned (.tuple #[.slice (some ⟨w.heap.size, 0, none⟩) N N, .bool ok]) ∧ MatAt w' w.heap.size N 171 27 3 N D ∧
  (ok = true → ¬ Sunk (Arc zs) N ∧ Tells (Arc zs) N D (fun a b => decide (D a b < farI)) ∧ ∀ a b, a < N → b < N → D a b = farI ∨ (-46656000000000000 ≤ D a b ∧ D a b ≤ 46656000000000000)) ∧
  (ok = false → Sunk (Arc zs) N) ∧ Below w.heap.size w w'
theorem negB_ok {N : Nat} {zs : List REdge} {D : Nat → Nat → Int} (hl : EdgesOk N zs) (h6 : N ≤ 6) (h : FInv N zs N 0 0 D) :
  ((!negB N D) = true → ¬ Sunk (Arc zs) N ∧ Tells (Arc zs) N D (fun a b => decide (D a b < farI)) ∧ ∀ a b, a < N → b < N → D a b = farI ∨ (-46656000000000000 ≤ D a b ∧ D a b ≤ 46656000000000000)) ∧ ((!negB N D) = false → Sunk (Arc zs) N) := by
 refine ⟨fun g => h.fine hl h6 (fun a ha => ?_), fun g => ?_⟩
 ·rcases Int.lt_or_le (D a a) 0 with q | q
  ·rw [negB_iff.2 ⟨a, ha, q⟩] at g; cases g
  ·exact q
 ·have : negB N D = true := by simpa using g
  obtain ⟨a, ha, q⟩ := negB_iff.1 this
  exact h.sunk ha q
def D0 (a b : Nat) : Int := if a = b then 0 else farI
theorem made_i0 (N : Nat) : ICells (List.replicate N 0) = ICells (rowOf N (fun _ _ => 0) 0) := by
 congr 1
 apply List.ext_getElem?
 intro j
 rw [List.getElem?_replicate]
 by_cases hj : j < N
 ·rw [if_pos hj, rowOf_at hj]
 ·rw [if_neg hj, List.getElem?_eq_none (by rw [rowOf_len]; omega)]
def DJ (i k a b : Nat) : Int := if a = i ∧ ¬ b < k then 0 else D0 a b
theorem DJ_set {i k : Nat} (hne : i ≠ k) (a b : Nat) : up2 (DJ i k) i k 1152921504606846976 a b = DJ i (k + 1) a b := by
 unfold up2 DJ
 by_cases e : a = i ∧ b = k
 ·have g : ¬ (a = i ∧ ¬ b < k + 1) := by omega
  rw [if_pos e, if_neg g, e.1, e.2]
  unfold D0 farI
  rw [if_neg hne]
 ·rw [if_neg e]
  by_cases f : a = i ∧ ¬ b < k
  ·have g : a = i ∧ ¬ b < k + 1 := by omega
   rw [if_pos f, if_pos g]
  ·have g : ¬ (a = i ∧ ¬ b < k + 1) := by omega
   rw [if_neg f, if_neg g]
theorem DJ_skip {i a b : Nat} : DJ i i a b = DJ i (i + 1) a b := by
 unfold DJ
 by_cases e : a = i ∧ b = i
 ·have f : a = i ∧ ¬ b < i := by omega
  have g : ¬ (a = i ∧ ¬ b < i + 1) := by omega
  rw [if_pos f, if_neg g, e.1, e.2]
  unfold D0
  rw [if_pos rfl]
 ·by_cases f : a = i ∧ ¬ b < i
  ·have g : a = i ∧ ¬ b < i + 1 := by omega
   rw [if_pos f, if_pos g]
  ·have g : ¬ (a = i ∧ ¬ b < i + 1) := by omega
   rw [if_neg f, if_neg g]
theorem DJ_end {N i a b : Nat} (h : b < N) : DJ i N a b = D0 a b := by
 unfold DJ
 rw [if_neg (by omega)]
theorem DJ_old {i k a b : Nat} (h : a ≠ i) : DJ i k a b = D0 a b := by
 unfold DJ
 rw [if_neg (by omega)]
theorem DJ_new {N i : Nat} : rowOf N (fun _ _ => 0) 0 = rowOf N (DJ i 0) i := by
 unfold rowOf
 apply List.map_congr_left
 intro a ha
 unfold DJ
 rw [if_pos (by omega)]
theorem row_congr {N : Nat} {D E : Nat → Nat → Int} {i : Nat} (h : ∀ b, b < N → D i b = E i b) : rowOf N D i = rowOf N E i := by
 unfold rowOf
 apply List.map_congr_left
 intro a ha
 exact h a (List.mem_range.1 ha)
theorem infoSl : (Tryz.prog.info? 27).map (fun i => (i.zero, i.size, i.bytes)) = some (some (.slice none 0 0), 1, 24) := by kernel_rfl
set_option maxRecDepth 100000 in
set_option maxHeartbeats 8000000 in
theorem bounds_closed (N : Nat) (A : Option Addr) (n c : Nat) (zs : List REdge) (w : World) (hz : IsRecs w REdge.cells REdge.ok 4 A n c zs) (h1 : 1 ≤ N) (h6 : N ≤ 6) (hn : n ≤ 40) (hl : EdgesOk N zs) :
  Calls Tryz.prog 138 #[.int .i64 N, .slice A n c] w fun e w' => ClosedP N zs w w' e := by
 obtain ⟨l1, l2, l3, l4, l5⟩ := hz
 unfold maxLen at l3
 have L1 := Lib.hid l1
 have L5 := Lib.hid l5
 have HL := Lib.hid hl
 clear l4 l5 l1 hl
 have mk1 := run_make_row' (P := Tryz.prog) 171 27 (.slice none 0 0) 24 Tryz.underlying171 infoSl rfl .i64 .i64 N (by omega) (by omega)
 have mk2 := run_make_row' (P := Tryz.prog) 27 3 (.int .i64 0) 8 Tryz.underlying27 infoI rfl .i64 .i64 N (by omega) (by omega)
 rw [made_sl w.heap.size] at mk1
 rw [made_i, made_i0] at mk2
 go_enter Tryz.func138, Tryz.ntmps138
 go_wp2_with fail
 go_loopw [18] (fun iv wr => ∃ i : Nat, iv = .int .i64 i ∧ i ≤ N ∧ MatAt wr w.heap.size N 171 27 3 i D0 ∧ wr.heap.size = w.heap.size + 2 + i ∧ Below w.heap.size w wr) (fun iv _ => N - (intOf iv).toNat)
 case atStart => exact ⟨0, rfl, by omega, ⟨(Blk.new w _ _).alloc _, (by have := Blk.new (w.alloc (.cells (slCells w.heap.size N 0) 27)) 171 #[.slice (some ⟨w.heap.size, 0, none⟩) N N]; simpa using this), fun j hj => absurd hj (by omega)⟩, by simp, BeL⟩
 case round =>
  obtain ⟨i, rfl, hi, hM, hs, hB⟩ := hrel
  have HM := Lib.hid hM
  have HB := Lib.hid hB
  have HS := Lib.hid hs
  have hzw := hB.size
  have xb := hM.cbox
  have xf := hM.outer.fz i
  have g1 := hM.outer.lt
  have g2 := hM.box.lt
  by_cases d1 : i < N
  ·have xo : wr.cell? ⟨w.heap.size, i, none⟩ = some (.slice none 0 0) := by rw [hM.outer.cell, slCells_at d1, if_neg (by omega)]
   have k0 : (0 : Int) ≤ (i : Int) := by omega
   have k1 : (i : Int) < (N : Int) := by omega
   clear hM hB hs
   go_wp2_with fail
   go_region_held3 (fun w' => w'.cell? ⟨w.heap.size + 1, 0, none⟩ = some (.slice (some ⟨w.heap.size, 0, none⟩) N N)) (go_keep) (fail)
   have HM2 := Lib.hid (show MatAt ((wr.setCell ⟨w.heap.size, i, none⟩ (.slice (some ⟨wr.heap.size, 0, none⟩) N N)).alloc (.cells (ICells (rowOf N (fun _ _ => 0) 0)) 3)).drew w.heap.size N 171 27 3 (i + 1) (DJ i 0) from
    ⟨by
     have h := HM.out.outer.set i (.slice (some ⟨wr.heap.size, 0, none⟩) N N)
     rw [show wr.heap.size = w.heap.size + 2 + i from HS.out, slCells_set] at h
     rw [show wr.heap.size = w.heap.size + 2 + i from HS.out]
     exact (h.alloc _).drew, ((HM.out.box.far (by simp) _).alloc _).drew, fun j hj => by
     by_cases e : j = i
     ·subst e
      have h := Blk.new (wr.setCell ⟨w.heap.size, j, none⟩ (.slice (some ⟨wr.heap.size, 0, none⟩) N N)) 3 (ICells (rowOf N (fun _ _ => 0) 0))
      rw [show (wr.setCell ⟨w.heap.size, j, none⟩ (.slice (some ⟨wr.heap.size, 0, none⟩) N N)).heap.size = w.heap.size + 2 + j by simp; exact HS.out] at h
      rw [← DJ_new]
      exact h.drew
     ·rw [show rowOf N (DJ i 0) j = rowOf N D0 j from row_congr (fun b _ => DJ_old e)]
      exact (((HM.out.rows j (by omega)).far (by simp; omega) _).alloc _).drew⟩)
   have HB2 := Lib.hid (show Below w.heap.size w ((wr.setCell ⟨w.heap.size, i, none⟩ (.slice (some ⟨wr.heap.size, 0, none⟩) N N)).alloc (.cells (ICells (rowOf N (fun _ _ => 0) 0)) 3)).drew by have := HB.out; exact BeL)
   have xs := HM2.out.csl (j := i) (by omega) (by omega)
   have xz : ((wr.setCell ⟨w.heap.size, i, none⟩ (.slice (some ⟨wr.heap.size, 0, none⟩) N N)).alloc (.cells (ICells (rowOf N (fun _ _ => 0) 0)) 3)).drew.heap.size = w.heap.size + 2 + (i + 1) := by simp; have := HS.out; omega
   generalize ((wr.setCell ⟨w.heap.size, i, none⟩ (.slice (some ⟨wr.heap.size, 0, none⟩) N N)).alloc (.cells (ICells (rowOf N (fun _ _ => 0) 0)) 3)).drew = w2 at HM2 HB2 xs xz ⊢
   have XZ := Lib.hid xz
   clear xz xb xf xo HM HB HS
   have xb := HM2.out.cbox
   go_wp2_with fail
   clear xb xs
   obtain ⟨wo, rfl⟩ : ∃ wo : World, wo = w2 := ⟨_, rfl⟩
   go_loopw [31] (fun kv wx => ∃ k : Nat, kv = .int .i64 k ∧ k ≤ N ∧ MatAt wx w.heap.size N 171 27 3 (i + 1) (DJ i k) ∧ wx.heap.size = w.heap.size + 2 + (i + 1) ∧ Below w.heap.size w wx) (fun kv _ => N - (intOf kv).toNat)
   case atStart => exact ⟨0, rfl, by omega, HM2.out, XZ.out, HB2.out⟩
   case round =>
    obtain ⟨k, rfl, hk, hM, hs, hB⟩ := hrel
    have HM := Lib.hid hM
    have HB := Lib.hid hB
    have HS := Lib.hid hs
    have xb := hM.cbox
    have xs := hM.csl (j := i) (by omega) (by omega)
    have xf := fun o => hM.fz (j := i) (by omega) o
    have gi := hM.lt (j := i) (by omega)
    clear hM hB hs
    by_cases d2 : k < N
    ·by_cases e : i = k
     ·subst e
      have HM3 := Lib.hid (HM.out.congr (E := DJ i (i + 1)) (fun a b _ _ => DJ_skip))
      go_wp2_with fail
      go_roundw
      case rel => exact ⟨i + 1, by go_num, by omega, HM3.out, HS.out, HB.out⟩
      case measure => simp [intOf]; omega
     ·have e1 : (i == k) = false := by simpa using e
      have e2 : ((i : Int) == (k : Int)) = false := by simp; omega
      have HM3 := Lib.hid ((HM.out.set i k 1152921504606846976).congr (E := DJ i (k + 1)) (fun a b _ _ => DJ_set e a b))
      have xc := HM.out.cat (j := i) (by omega) d2
      go_wp2_with fail
      go_roundw
      case rel => exact ⟨k + 1, by go_num, by omega, HM3.out, by simp; exact HS.out, HB.out.setCell (by simp; omega) _⟩
      case measure => simp [intOf]; omega
    ·obtain rfl : k = N := by omega
     go_wp2_with fail
     go_roundw
     case rel => exact ⟨i + 1, by go_num, by omega, HM.out.congr (fun a b ha hb => by by_cases e : a = i; (exact DJ_end hb); (exact DJ_old e)), HS.out, HB.out⟩
     case measure => simp [intOf]; omega
  ·obtain rfl : i = N := by omega
   clear hM hB hs xf xb
   go_wp2_with fail
   go_loopw [47] (fun kv wx => ∃ (k : Nat) (D : Nat → Nat → Int), kv = .int .i64 k ∧ k ≤ n ∧ MatAt wx w.heap.size i 171 27 3 i D ∧ EInv i zs k D ∧ w.heap.size + 2 + i ≤ wx.heap.size ∧ Below w.heap.size w wx) (fun kv _ => n - (intOf kv).toNat)
   case atStart => exact ⟨0, D0, rfl, by omega, HM.out, EInv.init i zs D0 (fun a b _ _ => rfl), by rw [HS.out]; exact Nat.le_refl _, HB.out⟩
   case round =>
    obtain ⟨k, D, rfl, hk, hM, hE, hs, hB⟩ := hrel
    have HM := Lib.hid hM
    have HE := Lib.hid hE
    have HB := Lib.hid hB
    clear hM hE hB
    by_cases d2 : k < n
    ·obtain ⟨b, off, rfl, hb, hc⟩ := L5.out (by omega)
     obtain ⟨z, hz⟩ : ∃ z, zs[k]? = some z := ⟨_, List.getElem?_eq_getElem (by rw [L1.out]; omega)⟩
     have x0 := (HB.out.cell (p := ⟨b, off + k * 4, none⟩) hb).trans (hc k z hz 0 _ rfl)
     have x1 := (HB.out.cell (p := ⟨b, off + k * 4 + 1, none⟩) hb).trans (hc k z hz 1 _ rfl)
     have x2 := (HB.out.cell (p := ⟨b, off + k * 4 + 2, none⟩) hb).trans (hc k z hz 2 _ rfl)
     have x3 := (HB.out.cell (p := ⟨b, off + k * 4 + 3, none⟩) hb).trans (hc k z hz 3 _ rfl)
     have hed := HL.out z (List.mem_of_getElem? hz)
     obtain ⟨za, zb, zl, zh⟩ := z
     unfold edgeB at hed
     obtain ⟨ea, eb, ec, ed, ee, ef, eg, eh⟩ := hed
     dsimp only at ea eb ec ed ee ef eg eh
     dsimp only [REdge.cells] at x0 x1 x2 x3
     obtain ⟨a, rfl⟩ := Int.eq_ofNat_of_zero_le ea
     obtain ⟨c', rfl⟩ := Int.eq_ofNat_of_zero_le ec
     have HEE := Lib.hid (HE.out.step HL.out hz (a := a) (b := c') rfl rfl)
     have n2' : b < wr.heap.size := by have := HB.out.size; omega
     clear hc hz
     have k0 : (0 : Int) ≤ (a : Int) := by omega
     have k1 : (a : Int) < (i : Int) := by omega
     have k2 : (0 : Int) ≤ (c' : Int) := by omega
     have k3 : (c' : Int) < (i : Int) := by omega
     go_wp2_with fail
     obtain ⟨w3, hw3⟩ : ∃ w3, wr.alloc (.cells #[.int .i64 (a : Int), .int .i64 (c' : Int), .int .i64 zl, .int .i64 zh] 208) = w3 := ⟨_, rfl⟩
     have HM3 := Lib.hid (show MatAt w3 w.heap.size i 171 27 3 i D by rw [← hw3]; exact HM.out.alloc _)
     have HB3 := Lib.hid (show Below w.heap.size w w3 by rw [← hw3]; exact HB.out.alloc HB.out.size _)
     have hs3 : w.heap.size + 2 + i ≤ w3.heap.size := by rw [← hw3]; simp; omega
     obtain ⟨eb, heb⟩ : ∃ eb, wr.heap.size = eb := ⟨_, rfl⟩
     have y0 : w3.cell? ⟨eb, 0, none⟩ = some (.int .i64 (a : Int)) := by rw [← hw3, ← heb]; simp
     have y1 : w3.cell? ⟨eb, 1, none⟩ = some (.int .i64 (c' : Int)) := by rw [← hw3, ← heb]; simp
     have y2 : w3.cell? ⟨eb, 2, none⟩ = some (.int .i64 zl) := by rw [← hw3, ← heb]; simp
     have y3 : w3.cell? ⟨eb, 3, none⟩ = some (.int .i64 zh) := by rw [← hw3, ← heb]; simp
     have y4 : w.heap.size + 2 + i ≤ eb ∧ eb < w3.heap.size := by rw [← hw3, ← heb]; simp; omega
     obtain ⟨y4, y5⟩ := y4
     rw [hw3]
     simp only [heb]
     clear hw3 heb x0 x1 x2 x3
     obtain ⟨v1, hv1⟩ : ∃ v, D a c' = v := ⟨_, rfl⟩
     have xb := HM3.out.cbox
     have xs1 := HM3.out.csl (j := a) (by omega) (by omega)
     have xc1 := HM3.out.cat (j := a) (k := c') (by omega) (by omega)
     have xf1 := fun o => HM3.out.fz (j := a) (by omega) o
     have HVA := Lib.hid hv1
     rw [hv1] at xc1
     clear hv1
     rcases Int.lt_or_le zh v1 with q1 | q1
     ·(skip)
      have HV1 := Lib.hid (show min v1 zh = zh from by omega)
      go_still_tail 21, kRf
      change wpList _ _ _ _ _ w3.drew
      go_wp2_with fail
      have hM4 := (HM3.out.drewN 1).set a c' zh
      have hB4 : Below w.heap.size w (w3.setCell ⟨w.heap.size + 2 + a, c', none⟩ (.int .i64 zh)).drew := (HB3.out.setCell (by simp; omega) _).drew
      obtain ⟨w4, hw4⟩ : ∃ w4, (w3.setCell ⟨w.heap.size + 2 + a, c', none⟩ (.int .i64 zh)).drew = w4 := ⟨_, rfl⟩
      have HM4 := Lib.hid (show MatAt w4 w.heap.size i 171 27 3 i (up2 D a c' zh) by rw [← hw4]; exact hM4)
      have HB4 := Lib.hid (show Below w.heap.size w w4 by rw [← hw4]; exact hB4)
      have hs4 : w.heap.size + 2 + i ≤ w4.heap.size := by rw [← hw4]; simpa using hs3
      have z0 : w4.cell? ⟨eb, 0, none⟩ = some (.int .i64 (a : Int)) := by rw [← hw4]; simp [World.cell?_setCell_other, y0, show eb ≠ w.heap.size + 2 + a by omega, show w.heap.size + 2 + a ≠ eb by omega]
      have z1 : w4.cell? ⟨eb, 1, none⟩ = some (.int .i64 (c' : Int)) := by rw [← hw4]; simp [World.cell?_setCell_other, y1, show eb ≠ w.heap.size + 2 + a by omega, show w.heap.size + 2 + a ≠ eb by omega]
      have z2 : w4.cell? ⟨eb, 2, none⟩ = some (.int .i64 zl) := by rw [← hw4]; simp [World.cell?_setCell_other, y2, show eb ≠ w.heap.size + 2 + a by omega, show w.heap.size + 2 + a ≠ eb by omega]
      have z3 : w4.cell? ⟨eb, 3, none⟩ = some (.int .i64 zh) := by rw [← hw4]; simp [World.cell?_setCell_other, y3, show eb ≠ w.heap.size + 2 + a by omega, show w.heap.size + 2 + a ≠ eb by omega]
      rw [hw4]
      clear hw4 hM4 hB4 y0 y1 y2 y3 xb xs1 xc1 xf1 HM3 HB3
      obtain ⟨v2, hv2⟩ : ∃ v, (up2 D a c' zh) c' a = v := ⟨_, rfl⟩
      have HVB := Lib.hid (show D c' a = v2 from by rw [← hv2, up2_ne _ _ (by omega)])
      have xb := HM4.out.cbox
      have xs1 := HM4.out.csl (j := c') (by omega) (by omega)
      have xc1 := HM4.out.cat (j := c') (k := a) (by omega) (by omega)
      have xf1 := fun o => HM4.out.fz (j := c') (by omega) o
      rw [hv2] at xc1
      clear hv2
      rcases Int.lt_or_le (-zl) v2 with r1 | r1
      ·(skip)
       have HV2 := Lib.hid (show min v2 (-zl) = -zl from by omega)
       go_still_tail 22, kRf
       change wpList _ _ _ _ _ w4.drew
       go_wp2_with fail
       go_roundw
       case rel => exact ⟨k + 1, _, by go_num, by omega, by
        have h := (HM4.out.drewN 1).set c' a (-zl)
        exact h, by
        have h := HEE.out
        rw [HVA.out, HV1.out, HVB.out, HV2.out] at h
        exact h, by simpa using hs4, HB4.out.drew.setCell (by simp; omega) _⟩
       case measure => simp [intOf]; omega
      ·(skip)
       have HV2 := Lib.hid (show min v2 (-zl) = v2 from by omega)
       go_still_tail 22, kRf
       change wpList _ _ _ _ _ w4.drew
       go_wp2_with fail
       go_roundw
       case rel => exact ⟨k + 1, _, by go_num, by omega, by
        have h := (HM4.out.drewN 1).set c' a (v2)
        exact h, by
        have h := HEE.out
        rw [HVA.out, HV1.out, HVB.out, HV2.out] at h
        exact h, by simpa using hs4, HB4.out.drew.setCell (by simp; omega) _⟩
       case measure => simp [intOf]; omega
     ·(skip)
      have HV1 := Lib.hid (show min v1 zh = v1 from by omega)
      go_still_tail 21, kRf
      change wpList _ _ _ _ _ w3.drew
      go_wp2_with fail
      have hM4 := (HM3.out.drewN 1).set a c' v1
      have hB4 : Below w.heap.size w (w3.setCell ⟨w.heap.size + 2 + a, c', none⟩ (.int .i64 v1)).drew := (HB3.out.setCell (by simp; omega) _).drew
      obtain ⟨w4, hw4⟩ : ∃ w4, (w3.setCell ⟨w.heap.size + 2 + a, c', none⟩ (.int .i64 v1)).drew = w4 := ⟨_, rfl⟩
      have HM4 := Lib.hid (show MatAt w4 w.heap.size i 171 27 3 i (up2 D a c' v1) by rw [← hw4]; exact hM4)
      have HB4 := Lib.hid (show Below w.heap.size w w4 by rw [← hw4]; exact hB4)
      have hs4 : w.heap.size + 2 + i ≤ w4.heap.size := by rw [← hw4]; simpa using hs3
      have z0 : w4.cell? ⟨eb, 0, none⟩ = some (.int .i64 (a : Int)) := by rw [← hw4]; simp [World.cell?_setCell_other, y0, show eb ≠ w.heap.size + 2 + a by omega, show w.heap.size + 2 + a ≠ eb by omega]
      have z1 : w4.cell? ⟨eb, 1, none⟩ = some (.int .i64 (c' : Int)) := by rw [← hw4]; simp [World.cell?_setCell_other, y1, show eb ≠ w.heap.size + 2 + a by omega, show w.heap.size + 2 + a ≠ eb by omega]
      have z2 : w4.cell? ⟨eb, 2, none⟩ = some (.int .i64 zl) := by rw [← hw4]; simp [World.cell?_setCell_other, y2, show eb ≠ w.heap.size + 2 + a by omega, show w.heap.size + 2 + a ≠ eb by omega]
      have z3 : w4.cell? ⟨eb, 3, none⟩ = some (.int .i64 zh) := by rw [← hw4]; simp [World.cell?_setCell_other, y3, show eb ≠ w.heap.size + 2 + a by omega, show w.heap.size + 2 + a ≠ eb by omega]
      rw [hw4]
      clear hw4 hM4 hB4 y0 y1 y2 y3 xb xs1 xc1 xf1 HM3 HB3
      obtain ⟨v2, hv2⟩ : ∃ v, (up2 D a c' v1) c' a = v := ⟨_, rfl⟩
      have HVB := Lib.hid (show D c' a = v2 from by rw [← hv2, up2_ne _ _ (by omega)])
      have xb := HM4.out.cbox
      have xs1 := HM4.out.csl (j := c') (by omega) (by omega)
      have xc1 := HM4.out.cat (j := c') (k := a) (by omega) (by omega)
      have xf1 := fun o => HM4.out.fz (j := c') (by omega) o
      rw [hv2] at xc1
      clear hv2
      rcases Int.lt_or_le (-zl) v2 with r1 | r1
      ·(skip)
       have HV2 := Lib.hid (show min v2 (-zl) = -zl from by omega)
       go_still_tail 22, kRf
       change wpList _ _ _ _ _ w4.drew
       go_wp2_with fail
       go_roundw
       case rel => exact ⟨k + 1, _, by go_num, by omega, by
        have h := (HM4.out.drewN 1).set c' a (-zl)
        exact h, by
        have h := HEE.out
        rw [HVA.out, HV1.out, HVB.out, HV2.out] at h
        exact h, by simpa using hs4, HB4.out.drew.setCell (by simp; omega) _⟩
       case measure => simp [intOf]; omega
      ·(skip)
       have HV2 := Lib.hid (show min v2 (-zl) = v2 from by omega)
       go_still_tail 22, kRf
       change wpList _ _ _ _ _ w4.drew
       go_wp2_with fail
       go_roundw
       case rel => exact ⟨k + 1, _, by go_num, by omega, by
        have h := (HM4.out.drewN 1).set c' a (v2)
        exact h, by
        have h := HEE.out
        rw [HVA.out, HV1.out, HVB.out, HV2.out] at h
        exact h, by simpa using hs4, HB4.out.drew.setCell (by simp; omega) _⟩
       case measure => simp [intOf]; omega
    ·obtain rfl : k = n := by omega
     have hE0 := HE.out
     rw [← L1.out] at hE0
     have HF := Lib.hid (FInv.init hE0)
     clear hE0
     go_wp2_with fail
     go_loopw [96] (fun mv wx => ∃ (m : Nat) (D : Nat → Nat → Int), mv = .int .i64 m ∧ m ≤ i ∧ MatAt wx w.heap.size i 171 27 3 i D ∧ FInv i zs m 0 0 D ∧ w.heap.size + 2 + i ≤ wx.heap.size ∧ Below w.heap.size w wx) (fun mv _ => i - (intOf mv).toNat)
     case atStart => exact ⟨0, D, rfl, by omega, HM.out, HF.out, hs, HB.out⟩
     case round =>
      obtain ⟨m, D, rfl, hm, hM, hF, hs, hB⟩ := hrel
      have HM := Lib.hid hM
      have HF := Lib.hid hF
      have HB := Lib.hid hB
      clear hM hF hB
      by_cases d3 : m < i
      ·have d3' : decide ((m : Int) < (i : Int)) = true := by simp; omega
       go_wp2_with fail
       go_loopw [100] (fun mv wx => ∃ (a : Nat) (D : Nat → Nat → Int), mv = .int .i64 a ∧ a ≤ i ∧ MatAt wx w.heap.size i 171 27 3 i D ∧ FInv i zs m a 0 D ∧ w.heap.size + 2 + i ≤ wx.heap.size ∧ Below w.heap.size w wx) (fun mv _ => i - (intOf mv).toNat)
       case atStart => exact ⟨0, D, rfl, by omega, HM.out, HF.out, hs, HB.out⟩
       case round =>
        obtain ⟨a, D, rfl, ha, hM, hF, hs, hB⟩ := hrel
        have HM := Lib.hid hM
        have HF := Lib.hid hF
        have HB := Lib.hid hB
        clear hM hF hB
        by_cases d4 : a < i
        ·have d4' : decide ((a : Int) < (i : Int)) = true := by simp; omega
         go_wp2_with fail
         go_loopw [104] (fun mv wx => ∃ (b : Nat) (D : Nat → Nat → Int), mv = .int .i64 b ∧ b ≤ i ∧ MatAt wx w.heap.size i 171 27 3 i D ∧ FInv i zs m a b D ∧ w.heap.size + 2 + i ≤ wx.heap.size ∧ Below w.heap.size w wx) (fun mv _ => i - (intOf mv).toNat)
         case atStart => exact ⟨0, D, rfl, by omega, HM.out, HF.out, hs, HB.out⟩
         case round =>
          obtain ⟨b, D, rfl, hb, hM, hF, hs, hB⟩ := hrel
          have HM := Lib.hid hM
          have HF := Lib.hid hF
          have HB := Lib.hid hB
          clear hM hF hB
          by_cases d5 : b < i
          ·have d5' : decide ((b : Int) < (i : Int)) = true := by simp; omega
           have HFS := Lib.hid (HF.out.step d3 (by omega) d4 d5)
           have xb := HM.out.cbox
           have xs1 := HM.out.csl (j := a) (by omega) (by omega)
           have xs2 := HM.out.csl (j := m) (by omega) (by omega)
           have xc1 := HM.out.cat (j := a) (k := b) (by omega) (by omega)
           have xc2 := HM.out.cat (j := a) (k := m) (by omega) (by omega)
           have xc3 := HM.out.cat (j := m) (k := b) (by omega) (by omega)
           have xf1 := fun o => HM.out.fz (j := a) (by omega) o
           have f1 := HF.out.fin (by omega) d4 d3
           have f2 := HF.out.fin (by omega) d3 d5
           obtain ⟨v1, hv1⟩ : ∃ v, D a b = v := ⟨_, rfl⟩
           obtain ⟨v2, hv2⟩ : ∃ v, D a m = v := ⟨_, rfl⟩
           obtain ⟨v3, hv3⟩ : ∃ v, D m b = v := ⟨_, rfl⟩
           rw [hv1] at xc1
           rw [hv2] at xc2 f1
           rw [hv3] at xc3 f2
           have HV1 := Lib.hid hv1
           have HV2 := Lib.hid hv2
           have HV3 := Lib.hid hv3
           clear hv1 hv2 hv3
           unfold farI at f1 f2
           have k0 : (0 : Int) ≤ (a : Int) := by omega
           have k2 : (0 : Int) ≤ (b : Int) := by omega
           have k4 : (0 : Int) ≤ (m : Int) := by omega
           have k1 : (a : Int) < (i : Int) := by omega
           have k3 : (b : Int) < (i : Int) := by omega
           have k5 : (m : Int) < (i : Int) := by omega
           by_cases q1 : v2 < 1152921504606846976
           ·by_cases q2 : v3 < 1152921504606846976
            ·have f1' := f1 q1
             have f2' := f2 q2
             have y1 := IntWalk.i64_in (v2 + v3) (by omega)
             have HFT := Lib.hid (show FInv i zs m a (b + 1) (up2 D a b (min v1 (v2 + v3))) from by
              have h := HFS.out
              rw [HV1.out, HV2.out, HV3.out, if_pos (by unfold farI; omega)] at h
              exact h)
             have q1' : decide (v2 < 1152921504606846976) = true := by simpa using q1
             have q2' : decide (v3 < 1152921504606846976) = true := by simpa using q2
             clear f1 f2
             go_wp2_with fail
             rcases Int.lt_or_le (v2 + v3) v1 with r1 | r1
             ·have HMN := Lib.hid (show min v1 (v2 + v3) = v2 + v3 from by omega)
              go_still_tail 29, kRf
              change wpList _ _ _ _ _ (World.drew _)
              go_wp2_with fail
              go_roundw
              case rel => exact ⟨b + 1, _, by go_num, by omega, (by have h := (HM.out.drewN 1).set a b (v2 + v3); exact h), (by have h := HFT.out; rw [HMN.out] at h; exact h), by simpa using hs, HB.out.drew.setCell (by simp; omega) _⟩
              case measure => simp [intOf]; omega
             ·have HMN := Lib.hid (show min v1 (v2 + v3) = v1 from by omega)
              go_still_tail 29, kRf
              change wpList _ _ _ _ _ (World.drew _)
              go_wp2_with fail
              go_roundw
              case rel => exact ⟨b + 1, _, by go_num, by omega, (by have h := (HM.out.drewN 1).set a b v1; exact h), (by have h := HFT.out; rw [HMN.out] at h; exact h), by simpa using hs, HB.out.drew.setCell (by simp; omega) _⟩
              case measure => simp [intOf]; omega
            ·have HFT := Lib.hid (show FInv i zs m a (b + 1) D from by
              have h := HFS.out
              rw [HV2.out, HV3.out, if_neg (by unfold farI; omega)] at h
              exact h)
             have q1' : decide (v2 < 1152921504606846976) = true := by simpa using q1
             have q2' : decide (v3 < 1152921504606846976) = false := by simpa using q2
             clear f1 f2
             go_wp2_with fail
             go_roundw
             case rel => exact ⟨b + 1, D, by go_num, by omega, HM.out, HFT.out, hs, HB.out⟩
             case measure => simp [intOf]; omega
           ·have HFT := Lib.hid (show FInv i zs m a (b + 1) D from by
             have h := HFS.out
             rw [HV2.out, HV3.out, if_neg (by unfold farI; omega)] at h
             exact h)
            have q1' : decide (v2 < 1152921504606846976) = false := by simpa using q1
            clear f1 f2
            go_wp2_with fail
            go_roundw
            case rel => exact ⟨b + 1, D, by go_num, by omega, HM.out, HFT.out, hs, HB.out⟩
            case measure => simp [intOf]; omega
          ·obtain rfl : b = i := by omega
           go_wp2_with fail
           go_roundw
           case rel => exact ⟨a + 1, D, by go_num, by omega, HM.out, HF.out.row, hs, HB.out⟩
           case measure => simp [intOf]; omega
        ·obtain rfl : a = i := by omega
         go_wp2_with fail
         go_roundw
         case rel => exact ⟨m + 1, D, by go_num, by omega, HM.out, HF.out.next HL.out (by omega) (by omega), hs, HB.out⟩
         case measure => simp [intOf]; omega
      ·obtain rfl : m = i := by omega
       have HNK := Lib.hid (negB_ok HL.out h6 HF.out)
       have xb := HM.out.cbox
       have d3' : decide ((m : Int) < (m : Int)) = false := by simp
       have HUP := Lib.hid (fun w => bounds_upTo m w h1 h6)
       go_wp2_with fail
       go_region_held3 (fun w' => w'.cell? ⟨w.heap.size + 1, 0, none⟩ = some (.slice (some ⟨w.heap.size, 0, none⟩) m m)) (first | go_keep | (exact HM5.cbox))
        (first | (go_at_call 164; (with_reducible refine (HUP.out _).mono ?_); rintro e w5 ⟨⟨q, cap, rfl, ⟨q1, q2⟩, q3, q4⟩, hb5⟩; have HM5 : MatAt w5 w.heap.size m 171 27 3 m D := MatAt.below (by first | exact HM.out | exact HM.out.drewN 1 | exact (HM.out.drewN 1).drewN 1) hb5 (by simp; omega) (by simp; omega)) | (go_at_call 163; (with_reducible refine (has_closed m w.heap.size D q cap _ h6 (by first | exact HM5 | exact HM5.drewN 1 | exact (HM5.drewN 1).drewN 1) q1 q2 (by first | exact q4 | exact fun j hj => q4 j hj)).mono ?_); rintro e w' ⟨rfl, rfl⟩))
       all_goals
        go_wp2_with fail
        refine bodyPost_ret (v := .tuple #[.slice (some ⟨w.heap.size, 0, none⟩) m m, .bool (!negB m D)]) (by simp [results, Tryz.results138, go_sem]) rfl ?_
        exact ⟨D, !negB m D, rfl, HM5, HNK.out.1, HNK.out.2, HB.out.drew.trans (hb5.mono (by simp; omega))⟩
end


section
open Go.RowKit
theorem conv_back {w : World} {g cap : Nat} {l : List UInt8} (h : ∀ k (hk : k < l.length), w.cell? ⟨g, k, none⟩ = some (.int .u8 (l[k].toNat : Int))) :
  (convert 48 9 (.slice (some ⟨g, 0, none⟩) l.length cap)).run Tryz.prog w = .ok (.string ⟨l.toArray⟩) w :=
 run_convert_bytes_back (P := Tryz.prog) w 48 9 5 ⟨g, 0, none⟩ cap l Tryz.underlying48 Tryz.underlying5 Tryz.underlying9 (fun j hj => by
  rw [show (⟨g, 0, none⟩ : Addr).add j = ⟨g, j, none⟩ by unfold Addr.add; split <;> simp_all]
  exact h j hj)
theorem conv_pad2 (n : Int) (w : World) : (convert 48 9 (.slice (some ⟨w.heap.size, 0, none⟩) 2 2)).run Tryz.prog (w.alloc (.cells #[.int .u8 (48 + n / 10 % 10), .int .u8 (48 + n % 10)] 5))
  = .ok (.string ⟨(pad2 n).toArray⟩) (w.alloc (.cells #[.int .u8 (48 + n / 10 % 10), .int .u8 (48 + n % 10)] 5)) := by
 have e0 := dgU_toNat n
 have e1 := dgU_toNat (n / 10)
 refine conv_back (l := pad2 n) (fun k hk => ?_)
 have hk' : k < 2 := hk
 rw [(Blk.new w _ _).cell k]
 have hc : k = 0 ∨ k = 1 := by omega
 rcases hc with rfl | rfl
 ·show some (Value.int .u8 (48 + n / 10 % 10)) = some (Value.int .u8 ((dgU (n / 10)).toNat : Int)); rw [e1]
 ·show some (Value.int .u8 (48 + n % 10)) = some (Value.int .u8 ((dgU n).toNat : Int)); rw [e0]
theorem conv_pad4 (n : Int) (w : World) : (convert 48 9 (.slice (some ⟨w.heap.size, 0, none⟩) 4 4)).run Tryz.prog (w.alloc (.cells #[.int .u8 (48 + n / 10 / 10 / 10 % 10), .int .u8 (48 + n / 10 / 10 % 10), .int .u8 (48 + n / 10 % 10), .int .u8 (48 + n % 10)] 5))
  = .ok (.string ⟨(pad4 n).toArray⟩) (w.alloc (.cells #[.int .u8 (48 + n / 10 / 10 / 10 % 10), .int .u8 (48 + n / 10 / 10 % 10), .int .u8 (48 + n / 10 % 10), .int .u8 (48 + n % 10)] 5)) := by
 have e0 := dgU_toNat n
 have e1 := dgU_toNat (n / 10)
 have e2 := dgU_toNat (n / 100)
 have e3 := dgU_toNat (n / 1000)
 refine conv_back (l := pad4 n) (fun k hk => ?_)
 have hk' : k < 4 := hk
 rw [(Blk.new w _ _).cell k]
 have hc : k = 0 ∨ k = 1 ∨ k = 2 ∨ k = 3 := by omega
 rcases hc with rfl | rfl | rfl | rfl
 ·show some (Value.int .u8 (48 + n / 10 / 10 / 10 % 10)) = some (Value.int .u8 ((dgU (n / 1000)).toNat : Int)); rw [e3, show n / 10 / 10 / 10 = n / 1000 by omega]
 ·show some (Value.int .u8 (48 + n / 10 / 10 % 10)) = some (Value.int .u8 ((dgU (n / 100)).toNat : Int)); rw [e2, show n / 10 / 10 = n / 100 by omega]
 ·show some (Value.int .u8 (48 + n / 10 % 10)) = some (Value.int .u8 ((dgU (n / 10)).toNat : Int)); rw [e1]
 ·show some (Value.int .u8 (48 + n % 10)) = some (Value.int .u8 ((dgU n).toNat : Int)); rw [e0]
set_option maxRecDepth 100000 in
theorem civil_Pad2 (n : Int) (w : World) (h0 : 0 ≤ n) (h1 : n ≤ 99) : Calls Tryz.prog 106 #[.int .i64 n, .int .i64 2] w fun e w' => e = .returned (.string ⟨(pad2 n).toArray⟩) ∧ Below w.heap.size w w' := by
 have hmk : ∀ w, (Instr.makeSlice 48 (.int .i64 2) (.int .i64 2)).run Tryz.prog w = .ok (.slice (some ⟨w.heap.size, 0, none⟩) 2 2) (w.alloc (.cells #[.int .u8 0, .int .u8 0] 5)) := fun _ => by kernel_rfl
 have hcv := conv_pad2 n
 go_enter Tryz.func106, Tryz.ntmps106
 go_wp2_with fail
 refine wp_loop_rounds 3 ?_
 rw [rounds_succ]
 go_wp2_with fail
 rw [rounds_succ]
 go_wp2_with fail
 rw [rounds_succ]
 go_wp2_with fail
 go_ret
 exact ⟨rfl, BeL⟩
set_option maxRecDepth 100000 in
theorem civil_Pad4 (n : Int) (w : World) (h0 : 0 ≤ n) (h1 : n ≤ 9999) : Calls Tryz.prog 106 #[.int .i64 n, .int .i64 4] w fun e w' => e = .returned (.string ⟨(pad4 n).toArray⟩) ∧ Below w.heap.size w w' := by
 have hmk : ∀ w, (Instr.makeSlice 48 (.int .i64 4) (.int .i64 4)).run Tryz.prog w = .ok (.slice (some ⟨w.heap.size, 0, none⟩) 4 4) (w.alloc (.cells #[.int .u8 0, .int .u8 0, .int .u8 0, .int .u8 0] 5)) := fun _ => by kernel_rfl
 have hcv := conv_pad4 n
 go_enter Tryz.func106, Tryz.ntmps106
 go_wp2_with fail
 refine wp_loop_rounds 5 ?_
 rw [rounds_succ]
 go_wp2_with fail
 rw [rounds_succ]
 go_wp2_with fail
 rw [rounds_succ]
 go_wp2_with fail
 rw [rounds_succ]
 go_wp2_with fail
 rw [rounds_succ]
 go_wp2_with fail
 go_ret
 exact ⟨rfl, BeL⟩
set_option maxRecDepth 100000 in
theorem civil_Text (y m d : Int) (w : World) (h1 : 0 ≤ y) (h2 : y ≤ 9999) (h3 : 0 ≤ m) (h4 : m ≤ 99) (h5 : 0 ≤ d) (h6 : d ≤ 99) : Calls Tryz.prog 105 #[.agg #[.int .i64 y, .int .i64 m, .int .i64 d]] w fun e w' => e = .returned (.string ⟨(dateT y m d).toArray⟩) ∧ Below w.heap.size w w' := by
 have C1 := Lib.hid (fun w => civil_Pad4 y w h1 h2)
 have C2 := Lib.hid (fun w => civil_Pad2 m w h3 h4)
 have C3 := Lib.hid (fun w => civil_Pad2 d w h5 h6)
 obtain ⟨s4, e4⟩ : ∃ s, pad4 y = s := ⟨_, rfl⟩
 obtain ⟨s2, e2⟩ : ∃ s, pad2 m = s := ⟨_, rfl⟩
 obtain ⟨s3, e3⟩ : ∃ s, pad2 d = s := ⟨_, rfl⟩
 have HV := Lib.hid (show dateT y m d = s4 ++ (45 :: (s2 ++ (45 :: s3))) by unfold dateT; rw [e4, e2, e3])
 rw [e4] at C1
 rw [e2] at C2
 rw [e3] at C3
 have l4 : s4.length = 4 := by rw [← e4]; rfl
 have l2 : s2.length = 2 := by rw [← e2]; rfl
 have l3 : s3.length = 2 := by rw [← e3]; rfl
 have k0 : (w.alloc (.cells #[.int .i64 y, .int .i64 m, .int .i64 d] 80)).cell? ⟨w.heap.size, 0, none⟩ = some (.int .i64 y) := by simp
 have k1 : (w.alloc (.cells #[.int .i64 y, .int .i64 m, .int .i64 d] 80)).cell? ⟨w.heap.size, 1, none⟩ = some (.int .i64 m) := by simp
 have k2 : (w.alloc (.cells #[.int .i64 y, .int .i64 m, .int .i64 d] 80)).cell? ⟨w.heap.size, 2, none⟩ = some (.int .i64 d) := by simp
 clear e4 e2 e3
 go_enter Tryz.func105, Tryz.ntmps105
 go_wp2_with fail
 go_region_held3 (fun w' => w'.cell? ⟨w.heap.size, 0, none⟩ = some (.int .i64 y) ∧ w'.cell? ⟨w.heap.size, 1, none⟩ = some (.int .i64 m) ∧ w'.cell? ⟨w.heap.size, 2, none⟩ = some (.int .i64 d)) (((repeat' apply And.intro) <;> exact (Below.cell (B := (w.alloc (.cells #[.int .i64 y, .int .i64 m, .int .i64 d] 80)).heap.size) (w := w.alloc (.cells #[.int .i64 y, .int .i64 m, .int .i64 d] 80)) BeL oSo).trans (by assumption)))
  (first | (go_at_call 106; (with_reducible refine (C1.out _).mono ?_); rintro e w1 ⟨rfl, hb1⟩; obtain ⟨hc1, hf1⟩ := bcell hb1; have hz1 := hb1.size; (try simp at hz1); (try have := q00_ w w1); (try have := q02_ w w1); (try have := q03_ w w1); (try have := q10_ w w1); (try have := q12_ w w1); (try have := q13_ w w1); (try have := q20_ w w1); (try have := q22_ w w1); (try have := q23_ w w1); (try have := q30_ w w1); (try have := q32_ w w1); (try have := q33_ w w1)) | (go_at_call 106; (with_reducible refine (C2.out _).mono ?_); rintro e w2 ⟨rfl, hb2⟩; obtain ⟨hc2, hf2⟩ := bcell hb2; have hz2 := hb2.size; (try simp at hz2); (try have := q00_ w w2); (try have := q02_ w w2); (try have := q03_ w w2); (try have := q10_ w w2); (try have := q12_ w w2); (try have := q13_ w w2); (try have := q20_ w w2); (try have := q22_ w w2); (try have := q23_ w w2); (try have := q30_ w w2); (try have := q32_ w w2); (try have := q33_ w w2); (try have := q00_ w1 w2); (try have := q02_ w1 w2); (try have := q10_ w1 w2); (try have := q12_ w1 w2)) | (go_at_call 106; (with_reducible refine (C3.out _).mono ?_); rintro e w3 ⟨rfl, hb3⟩; obtain ⟨hc3, hf3⟩ := bcell hb3; have hz3 := hb3.size; (try simp at hz3); (try have := q00_ w w3); (try have := q02_ w w3); (try have := q03_ w w3); (try have := q10_ w w3); (try have := q12_ w w3); (try have := q13_ w w3); (try have := q20_ w w3); (try have := q22_ w w3); (try have := q23_ w w3); (try have := q30_ w w3); (try have := q32_ w w3); (try have := q33_ w w3); (try have := q00_ w1 w3); (try have := q02_ w1 w3); (try have := q10_ w1 w3); (try have := q12_ w1 w3); (try have := q00_ w2 w3); (try have := q02_ w2 w3); (try have := q10_ w2 w3); (try have := q12_ w2 w3)))
 all_goals
  go_wp2_with fail
  go_ret
  exact ⟨ret_v (by rw [HV.out]; exact congrArg Value.string (ByteArray.ext (by simp [ByteArray.data_append]))), BeL⟩
end


section
open Go.RowKit
def fitB (cl : List Int) (e : REdge) : Bool := decide (e.lo ≤ cl.getD e.b.toNat 0 - cl.getD e.a.toNat 0) && decide (cl.getD e.b.toNat 0 - cl.getD e.a.toNat 0 ≤ e.hi)
def fitsC (n : Int) (l : List REdge) (cl : List Int) : Int := if edgesC n l = 0 then (if (cl.length : Int) = n then okC (cl.all timeB) else 3) else edgesC n l
def fitsV (n : Int) (l : List REdge) (cl : List Int) : Bool := decide (fitsC n l cl = 0) && l.all (fitB cl)
end


section
open Go.RowKit
theorem way_pot {A : Nat → Nat → Int → Prop} {p : Nat → Int} (h : ∀ x y w, A x y w → p y - p x ≤ w) {a b r : Nat} {c : Int} (g : Way A a b r c) : p b - p a ≤ c := by
 induction g with
 | start => omega
 | go _ hw ih => have := h _ _ _ hw; omega
theorem fit_arc {n : Int} {zs : List REdge} {cl : List Int} (h : fitsV n zs cl = true) : ∀ x y w, Arc zs x y w → cl.getD y 0 - cl.getD x 0 ≤ w := by
 intro x y w hw
 unfold fitsV at h
 simp only [Bool.and_eq_true, List.all_eq_true] at h
 obtain ⟨e, he, hx⟩ := hw
 have hf := h.2 e he
 unfold fitB at hf
 simp only [Bool.and_eq_true, decide_eq_true_eq] at hf
 rcases hx with ⟨h1, h2, h3⟩ | ⟨h1, h2, h3⟩
 ·rw [h1, h2] at hf
  simp only [Int.toNat_natCast] at hf
  omega
 ·rw [h1, h2] at hf
  simp only [Int.toNat_natCast] at hf
  omega
theorem fit_not_sunk {n : Int} {zs : List REdge} {cl : List Int} {k : Nat} (h : fitsV n zs cl = true) : ¬ Sunk (Arc zs) k := by
 rintro ⟨v, r, c, _, hc, hw⟩
 have := way_pot (p := fun i => cl.getD i 0) (fit_arc h) hw
 omega
end
end Go.Proofs.YtldlandcjegikaaGreatDoor
