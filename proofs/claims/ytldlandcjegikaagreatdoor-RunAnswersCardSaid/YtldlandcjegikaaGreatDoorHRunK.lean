/- Package run, walked: Run. -/
import Derived.Test.YtldlandcjegikaaGreatDoorHRunI
import Derived.RangeFuncNested
import Derived.RangeFuncCalls
import Derived.RangeFuncLeaves
import Derived.Shelf.Abstract
import Derived.Shelf.RegionOpen
import Derived.WalkKit
import Derived.OwnWalkIn
import Derived.TacticsInMore
import Derived.LoopNIn
import Derived.LoopIn
namespace Go.Proofs.YtldlandcjegikaaGreatDoor
open Go.RowKit Go.Shelf
set_option linter.unusedVariables false
set_option linter.unusedSimpArgs false
attribute [local go_sem] Oper.semAt_some
theorem run_long (T : ByteArray) (hT : 3000 < T.size) (w : World) : Calls Tryz.prog 6 #[.string T] w fun e w' => e = .returned (.string ⟨#[116, 111, 111, 32, 108, 111, 110, 103, 10]⟩) ∧ Below w.heap.size w w' := by
 have h : (3000 : Int) < (T.size : Int) := by omega
 go_enter Tryz.func6, Tryz.ntmps6
 go_wp2_with fail
 go_ret
 exact ⟨rfl, BeL⟩
theorem new_ints {w : World} {g : Nat} {x y z : Int} {l : List Int} (hl : l = [x, y, z]) (hg : g < w.heap.size) (ho : ∀ v ∈ l, i64B v) (h0 : w.cell? ⟨g, 0, none⟩ = some (.int .i64 x)) (h1 : w.cell? ⟨g, 1, none⟩ = some (.int .i64 y)) (h2 : w.cell? ⟨g, 2, none⟩ = some (.int .i64 z)) : IsInts w (some ⟨g, 0, none⟩) 3 3 l := by
 subst hl
 refine ⟨rfl, Nat.le_refl _, by unfold maxLen; omega, ho, fun _ => ⟨g, 0, rfl, hg, fun i v hv j u hu => ?_⟩⟩
 have hj : j = 0 := by
  unfold intCells at hu
  have := (List.getElem?_eq_some_iff.1 hu).1
  simp at this
  exact this
 subst hj
 unfold intCells at hu
 simp at hu
 subst hu
 match i, hv with
 | 0, hv => simp at hv; subst hv; exact h0
 | 1, hv => simp at hv; subst hv; exact h1
 | 2, hv => simp at hv; subst hv; exact h2
 | i + 3, hv => simp at hv
theorem trim_line {l : List UInt8} : Lib.trimSuffix (l ++ [10]) [10] = l := by
 unfold Lib.trimSuffix Lib.hasSuffix
 rw [if_pos (List.isSuffixOf_iff_suffix.2 (List.suffix_append _ _))]
 simp
theorem trim_none {l : List UInt8} (h : (10 : UInt8) ∉ l) : Lib.trimSuffix l [10] = l := by
 unfold Lib.trimSuffix Lib.hasSuffix
 rw [if_neg]
 intro g
 obtain ⟨t, e⟩ := List.isSuffixOf_iff_suffix.1 g
 exact h (by rw [← e]; simp)
theorem cutL_lines {s x r : ByteArray} (h : CutL s x r) : ∃ l : List UInt8, linesOf s.data.toList = l :: linesOf r.data.toList ∧ Lib.trimSuffix x.data.toList [10] = l ∧ l.length ≤ s.size ∧ r.size + 1 ≤ s.size ∧ x.size ≤ s.size := by
 have hsl := str_len2 s
 obtain ⟨h0, ⟨i, hi, hil, rfl, rfl⟩ | ⟨hi, hx, rfl⟩⟩ := h
 ·obtain ⟨k1, k2, k3⟩ := byte_some hi
  have e1 : (s.extract 0 (i + 1)).data.toList = s.data.toList.take i ++ [10] := by
   have : (s.extract 0 (i + 1)).data.toList = s.data.toList.take (i + 1) := by simp
   rw [this, List.take_add_one]
   congr 1
   have e : s.data.toList[i]? = some 10 := (Lib.indexByte_some hi).1
   rw [e]; rfl
  have e2 : (s.extract (i + 1) s.size).data.toList = s.data.toList.drop (i + 1) := by
   simp
   rw [← hsl]
   exact List.take_of_length_le (by rw [List.length_drop]; omega)
  refine ⟨s.data.toList.take i, ?_, by rw [e1]; exact trim_line, by rw [List.length_take]; omega, by simp; omega, by simp; omega⟩
  rw [e2]
  conv => lhs; rw [k2]
  exact linesOf_cons k1 _
 ·subst hx
  have k := byte_none hi
  have hne : x.data.toList ≠ [] := fun e => by rw [e] at hsl; simp at hsl; omega
  exact ⟨x.data.toList, by rw [linesOf_last k hne]; rfl, trim_none k, by omega, by show 0 + 1 ≤ x.size; omega, Nat.le_refl _⟩
theorem lines_fn (s : ByteArray) (w : World) : Calls Tryz.prog 15 #[.string s] w fun e w' => e = .returned (.func (.func 34) #[] #[.pointer (some ⟨w.heap.size, 0, none⟩)]) ∧ w' = w.alloc (.cells #[.string s] 9) := by
 go_enter Tryz.func15, Tryz.ntmps15
 go_wp2
 go_ret
 exact ⟨rfl, rfl⟩
set_option maxRecDepth 100000 in
set_option maxHeartbeats 8000000 in
theorem run_Run (T : ByteArray) (hT : T.size ≤ 3000) (w : World) (HR : RunW w) : Calls Tryz.prog 6 #[.string T] w fun e w' => ∃ os t us S, Trace 0 [] (fun i => NSt.start 3 i 100) (linesOf T.data.toList) os t us S ∧ e = .returned (.string ⟨(outL os).toArray⟩) ∧ Below w.heap.size w w' := by
 have CN := Lib.hid (fun (A A2 : Option Addr) w (h : IsInts w A 3 3 ssR) (h2 : IsInts w A2 3 3 rsR) => net_New A 3 3 ssR A2 3 3 rsR 100 w h h2 (by decide))
 obtain ⟨X0, hX0⟩ : ∃ X0, (w.alloc (.cells #[.int .i64 0, .int .i64 1000, .int .i64 50] 3)).alloc (.cells #[.int .i64 100, .int .i64 (-100), .int .i64 0] 3) = X0 := ⟨_, rfl⟩
 have I1 := Lib.hid (show IsInts X0 (some ⟨w.heap.size, 0, none⟩) 3 3 ssR by
  rw [← hX0]
  exact new_ints (by rfl) (by simp; omega) (by unfold ssR; simp [i64B]) (by simp) (by simp) (by simp))
 have I2 := Lib.hid (show IsInts X0 (some ⟨w.heap.size + 1, 0, none⟩) 3 3 rsR by
  rw [← hX0]
  exact new_ints (by rfl) (by simp) (by unfold rsR; simp [i64B]) (by simp) (by simp) (by simp))
 have HB0 := Lib.hid (show Below w.heap.size w X0 by rw [← hX0]; exact BeL)
 have hle : (T.size : Int) ≤ 3000 := by omega
 refine (callsIn_wide (n := 3)).1 ?_
 refine callsIn_of_wp_marks Tryz.func6 rfl trivial ?_ rfl
 simp only [Tryz.ntmps6, List.size_toArray, List.length_cons, List.length_nil, Nat.reduceAdd, Nat.reduceSub, Array.replicate_succ, Array.replicate_zero, List.push_toArray, List.append_toArray, List.nil_append, List.cons_append]
 gi_wp2
 refine ⟨trivial, (callsIn_wide.2 (CN.out _ _ _ I1.out I2.out)).mono ?_⟩
 rintro e w1 ⟨a, rfl, h3, hga, hN, hb1⟩
 have HN := Lib.hid hN
 have H3 := Lib.hid h3
 have HGA := Lib.hid (show w.heap.size ≤ a.g from Nat.le_trans HB0.out.size hga)
 have HB1 := Lib.hid (HB0.out.trans (hb1.mono HB0.out.size))
 clear hN h3 hga hb1
 gi_wp2
 refine ⟨trivial, (callsIn_wide.2 (lines_fn T _)).mono ?_⟩
 rintro e w' ⟨rfl, rfl⟩
 gi_wp2
 obtain ⟨D, eD⟩ : ∃ D, w1.heap.size = D := ⟨_, rfl⟩
 have hwD : w.heap.size ≤ D := by rw [← eD]; exact HB1.out.size
 have HF : FixB a D := by rw [← eD]; exact HN.out.fix
 obtain ⟨X, hX⟩ : ∃ X, ((w1.alloc (.cells #[.pointer (some ⟨a.N, 0, none⟩)] 46)).alloc (.cells #[.pointer none, .slice none 0 0] 50)).alloc (.cells #[.string T] 9) = X := ⟨_, rfl⟩
 have hXs : X.heap.size = D + 3 := by rw [← hX, ← eD]; simp
 have hXS : RunS w X a D 0 (.slice none 0 0) [] 0 (fun i => NSt.start 3 i 100) [] := by
  have hb : Below w1.heap.size w1 X := by rw [← hX]; exact BeL
  refine ⟨HN.out.below hb, ?_, ?_, HB1.out.trans (hb.mono HB1.out.size)⟩
  ·have := (Lib.IsBuilderF.of (Lib.fresh_isBuilder 50 5 (w1.alloc (.cells #[.pointer (some ⟨a.N, 0, none⟩)] 46)))).alloc (.cells #[.string T] 9)
   rw [hX, World.size_alloc, eD] at this
   exact this
  ·rw [← hX, ← eD]; exact BkD
 have hXB : BoxS (D + 2) T X := by
  have : Blk X (w1.heap.size + 2) 9 #[.string T] := by rw [← hX]; exact BkD
  rw [eD] at this
  exact this
 rw [hX, eD]
 have HX := Lib.hid hXS
 have HXB := Lib.hid hXB
 clear hX hXS hXB
 refine wp_lines (D + 2) 3000 (by decide) rfl rfl (fun s W => ∃ ls os t us S uv K, linesOf T.data.toList = ls ++ linesOf s.data.toList ∧ Trace 0 [] (fun i => NSt.start 3 i 100) ls os t us S ∧ K ≤ ls.length ∧ ls.length + s.size ≤ 3000 ∧ RunS w W a D t uv us K S os) T hT (by omega) HXB.out ?J0 ?D ?set ?put
  (fun x => { tmps := #[.string T, undef, .string ⟨#[]⟩, .pointer (some ⟨a.N, 0, none⟩), .nilIface, .pointer (some ⟨D, 0, none⟩), .pointer (some ⟨D + 1, 0, none⟩), .string x, .string T, .int .i64 T.size, .bool (decide (3000 < (T.size : Int))),
   .tuple #[.pointer (some ⟨a.N, 0, none⟩), .nilIface], .slice (some ⟨w.heap.size, 0, none⟩) 3 3, .slice (some ⟨w.heap.size + 1, 0, none⟩) 3 3, .tuple #[.pointer (some ⟨a.N, 0, none⟩), .nilIface], .pointer (some ⟨a.N, 0, none⟩), .nilIface, .nilIface, .bool false, .pointer (some ⟨a.N, 0, none⟩), .agg #[.pointer (some ⟨a.N, 0, none⟩)],
   .string T, .func (.func 34) #[] #[.pointer (some ⟨D + 1 + 1, 0, none⟩)], .string x, undef, undef, undef, undef, undef, undef, undef], defers := [] }) ?assign ?body ?done
 case J0 => exact fun r => ⟨[], [], 0, [], _, _, 0, rfl, .nil _ _ _, Nat.le_refl _, by simp; omega, HX.out.kept (P := fun _ => False) HF hwD (((Kept.refl _ X).alloc _).alloc _) (fun k e => e.elim)⟩
 case D =>
  rintro s W ⟨ls, os, t, us, S, uv, K, g1, g2, g3, g4, g5⟩
  exact ⟨ls, os, t, us, S, uv, K, g1, g2, g3, g4, g5.kept (P := fun _ => False) HF hwD (Kept.refl _ W).drew (fun k e => e.elim)⟩
 case set =>
  rintro s W q r ⟨ls, os, t, us, S, uv, K, g1, g2, g3, g4, g5⟩ hq
  exact ⟨ls, os, t, us, S, uv, K, g1, g2, g3, g4, g5.kept (P := fun k => k = D + 2) HF hwD ((Kept.refl _ W).set (D + 2) 0 _ (.inl rfl)) (fun k e => by subst e; exact ⟨by omega, _, hq, (fun c fz e => by cases e), (fun c fz e => by cases e)⟩)⟩
 case put =>
  rintro s W r r' ⟨ls, os, t, us, S, uv, K, g1, g2, g3, g4, g5⟩ hl
  exact ⟨ls, os, t, us, S, uv, K, g1, g2, g3, g4, g5.kept (P := fun k => k = X.heap.size + 1) HF hwD ((Kept.refl _ W).grown (grownBy_putObj' W _ _) (fun k e => .inl (Option.some.inj e).symm)) (fun k e => by subst e; exact ⟨by omega, _, hl, (fun c fz e => by cases e), (fun c fz e => by cases e)⟩)⟩
 case assign =>
  intro x W K hK
  gi_wp2
  exact hK
 case body =>
  rintro s x r W lr hc hs ⟨ls, os, t, us, S, uv, K, g1, g2, g3, g4, g5⟩ hbx hl hk
  obtain ⟨ln, q1, q2, q3, q4, q5⟩ := cutL_lines hc
  rw [hXs] at hl hk
  rw [q1] at g1
  have HTr := Lib.hid (g2.true TrueR.start)
  have y0 := g5.dk.cell 0
  simp at y0
  have HS := Lib.hid g5
  have CT := fun W => trim_any x W (by omega)
  rw [q2] at CT
  replace CT := Lib.hid CT
  have CA := Lib.hid (fun W' (h : RunS w W' a D t uv us K S os) => run_answer (s := ⟨ln.toArray⟩) HR h.lo HGA.out h.N H3.out HTr.out (show K < 100000 by omega) (by rw [str_len]; omega))
  have HSd := Lib.hid (HS.out.kept (P := fun _ => False) HF hwD (Kept.refl _ W).drew (fun k e => e.elim))
  have hol : (outL os).length ≤ 101 * 3000 := by have := g2.size TrueR.start; omega
  have mixed : Tryz.prog.follows .mixedOrders = true := by kernel_rfl
  gi_wp2
  gi_region_with_o (first
   | (refine ⟨trivial, ?_⟩; gi_at_call 18; refine (CallsIn.inRound _ (callsIn_wide.2 (CT.out _))).mono ?_; rintro e w' ⟨rfl, rfl⟩)
   | (refine ⟨trivial, ?_⟩; gi_at_call 17; refine (CallsIn.inRound _ (callsIn_wide.2 (CA.out _ HSd.out))).mono ?_; rintro e w4 ⟨out, t', us', S', hAns, hd⟩; obtain ⟨so, eso⟩ : ∃ so : ByteArray, (⟨out.toArray⟩ : ByteArray) = so := ⟨_, rfl⟩; obtain ⟨he, uv', K', hK', hS4, st4⟩ := HSd.out.answer HF HGA.out hd; rw [eso] at he; subst he; have HA := Lib.hid hAns; have HS4 := Lib.hid hS4; have HT4 := Lib.hid st4; have lo := hAns.len HTr.out; have l1 : so.size ≤ 100 := (by rw [← eso, str_len]; exact lo); have l2 : so.size + 1 ≤ 9223372036854775807 := (by omega); have l3 : so.size ≤ 9223372036854775806 := (by omega); have HSO := Lib.hid eso; clear hAns hS4 st4 hd lo eso)
   | (refine ⟨trivial, ?_⟩; gi_at_call 16; refine (CallsIn.inRound _ (callsIn_wide.2 (bld_write (D + 1) (D + 1) _ _ w4 HS4.out.bd (by rw [Lib.byteCells_length, ByteArray.size_append, show (⟨#[10]⟩ : ByteArray).size = 1 from rfl]; omega) (by have := HS4.out.lt; omega)))).mono ?_; rintro e w5 ⟨rfl, h1, h2, h3⟩))
  all_goals
   have es : so ++ (⟨#[10]⟩ : ByteArray) = ⟨(out ++ [10]).toArray⟩ := by rw [← HSO.out]; exact ByteArray.ext (by simp [ByteArray.data_append])
   rw [es] at h1
   obtain ⟨hS5, st5⟩ := HS4.out.write HF hwD h1 h2 h3
   gi_wp2
   have b5 : BoxS (D + 2) r w5 := st5 _ _ (by omega) (HT4.out _ _ (by omega) hbx (fun c fz e => by cases e)) (fun c fz e => by cases e)
   have l5 : w5.heap[D + 3 + 1]? = some (.loop lr) := st5 _ _ (by omega) (HT4.out _ _ (by omega) hl (fun c fz e => by cases e)) (fun c fz e => by cases e)
   have k5 : w5.heap[D + 3]? = some (.deferred (some [])) := st5 _ _ (by omega) (HT4.out _ _ (by omega) hk (fun c fz e => by cases e)) (fun c fz e => by cases e)
   exact ⟨⟨ls ++ [ln], by simp, os ++ [out], t', us', S', .snoc g2 HA.out, uv', K', by simp; omega, by simp; omega, hS5⟩, b5, l5, k5⟩
 case done =>
  rintro W s hs0 ⟨ls, os, t, us, S, uv, K, g1, g2, g3, g4, g5⟩ hk
  have hsn : s.data.toList = [] := List.length_eq_zero_iff.1 (by rw [str_len2]; exact hs0)
  rw [hsn, linesOf_nil, List.append_nil] at g1
  have CB := Lib.hid (bld_string (D + 1) (D + 1) (outL os) W g5.bd (by have := g5.lt; omega))
  have HS := Lib.hid g5
  rw [hXs] at hk ⊢
  rw [← g1] at g2
  gi_wp2
  refine ⟨trivial, (callsIn_wide.2 CB.out).mono ?_⟩
  rintro e w9 ⟨rfl, hb9, ho9⟩
  have hk9 : w9.heap[D + 3]? = some (.deferred (some [])) := ho9 _ _ hk (fun e => by have := Option.some.inj e; omega) (fun c fz e => by cases e)
  gi_wp2
  refine ⟨by simp, .inl ⟨_, _, rfl, run_takeDeferred hk9, ?_⟩⟩
  refine ⟨_, results_tmp rfl _ _ _, os, t, us, S, g2, rfl, ?_⟩
  exact (HS.out.lo.trans (hb9.mono (by omega))).trans (belowK_b (w := w) (Nat.le_refl _) w9 (D + 3) _ _ (by omega) hk9 rfl rfl)
end Go.Proofs.YtldlandcjegikaaGreatDoor
