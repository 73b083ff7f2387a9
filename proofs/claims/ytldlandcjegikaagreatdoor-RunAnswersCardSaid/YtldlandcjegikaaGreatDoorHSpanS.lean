/- Package span on texts, walked: number, Print, Parse, Turn; what they ask of the world (SpanW: the table of powers of ten, strconv's errors, bytealg's length). -/
import Derived.Test.YtldlandcjegikaaGreatDoorHKA
import Derived.Lib.SmallJoins
import Derived.Lib.AppendIntMem
namespace Go.Proofs.YtldlandcjegikaaGreatDoor
open Go.RowKit Go.Shelf
set_option linter.unusedVariables false
set_option linter.unusedSimpArgs false
theorem sw_tab : Tryz.prog.globalNamed "internal/strconv.uint64pow10" = some 6 := by kernel_rfl
theorem sw_rng : Tryz.prog.globalNamed "strconv.ErrRange" = some 4 := by kernel_rfl
theorem sw_syn : Tryz.prog.globalNamed "strconv.ErrSyntax" = some 3 := by kernel_rfl
structure SpanW (w : World) : Prop where
 tab : Lib.TabIs Tryz.prog w "internal/strconv.uint64pow10" .u64 Lib.pow10Tab
 syn : ∃ tp p, w.var? Tryz.prog "strconv.ErrSyntax" = some #[.iface tp p]
 rng : ∃ tp p, w.var? Tryz.prog "strconv.ErrRange" = some #[.iface tp p]
 most : ∃ m, w.cell? ⟨2, 0, none⟩ = some (.int .i64 m)
theorem cell_lt {w : World} {g o : Nat} {v : Value} (h : w.cell? ⟨g, o, none⟩ = some v) : g < w.heap.size := by
 rcases Nat.lt_or_ge g w.heap.size with h' | h'
 ·exact h'
 ·simp [World.cell?, Array.getElem?_eq_none h'] at h
theorem SpanW.below {w w' : World} (h : SpanW w) (hb : Below w.heap.size w w') : SpanW w' := by
 obtain ⟨t1, p1, e1⟩ := h.syn
 obtain ⟨t2, p2, e2⟩ := h.rng
 obtain ⟨m, em⟩ := h.most
 exact ⟨Joins.tab_stays sw_tab h.tab hb (Nat.le_refl _), ⟨t1, p1, Joins.var_stays sw_syn e1 hb (Nat.le_refl _)⟩, ⟨t2, p2, Joins.var_stays sw_rng e2 hb (Nat.le_refl _)⟩,
  ⟨m, (hb.cell (p := ⟨2, 0, none⟩) (cell_lt em)).trans em⟩⟩
theorem str_of (s : ByteArray) : (⟨s.data.toList.toArray⟩ : ByteArray) = s := by
 cases s with
 | mk d => exact congrArg ByteArray.mk (Array.toArray_toList ..)
theorem str_len (l : List UInt8) : (⟨l.toArray⟩ : ByteArray).size = l.length := List.size_toArray
theorem str_len2 (s : ByteArray) : s.data.toList.length = s.size := Array.length_toList
theorem str_beq (a b : List UInt8) : ((⟨a.toArray⟩ : ByteArray).toList == (⟨b.toArray⟩ : ByteArray).toList) = sameL a b := by
 rw [ByteArray.toList_eq, ByteArray.toList_eq]
 unfold sameL
 simp only [List.toList_toArray]
 exact (Bool.beq_eq_decide_eq _ _)
theorem itoa_any (n : Int) (w : World) (h : SpanW w) (h0 : -9223372036854775808 ≤ n) (h1 : n ≤ 9223372036854775807) :
  Calls Tryz.prog 53 #[.int .i64 n] w fun e w' => e = .returned (.string ⟨(Lib.itoa n).toArray⟩) ∧ Below w.heap.size w w' := by
 refine (Any.strconv_Itoa itoaL n h0 h1 w h.tab).mono ?_
 rintro e w' ⟨rfl, k, os, rfl⟩
 exact ⟨rfl, Lib.below_grow _ _ (Nat.le_refl _) _ _⟩
theorem itoa_let (n : Int) (h0 : -9223372036854775808 ≤ n) (h1 : n ≤ 9223372036854775807) : ∃ s : ByteArray, (⟨(Lib.itoa n).toArray⟩ : ByteArray) = s ∧ s.size ≤ 21 ∧ ∀ w, SpanW w → Calls Tryz.prog 53 #[.int .i64 n] w fun e w' => e = .returned (.string s) ∧ Below w.heap.size w w' :=
 ⟨_, rfl, by rw [str_len]; exact Lib.itoa_length_le n h0 h1, fun w h => itoa_any n w h h0 h1⟩
theorem atoi_good (l : List UInt8) (n : Int) (w : World) (hs : l.length ≤ 1048576) (ho : atoOk l = true) (hn : atoV l = n) :
  Calls Tryz.prog 52 #[.string ⟨l.toArray⟩] w fun e w' => e = .returned (.tuple #[.int .i64 n, .nilIface]) ∧ Below w.heap.size w w' := by
 unfold atoOk atoV at *
 cases h : Lib.atoiAll l with
 | ok v =>
  rw [h] at hn
  obtain rfl : v = n := hn
  refine (Any.strconv_Atoi_ok atoiL ⟨l.toArray⟩ (by rw [str_len]; omega) v h w).mono ?_
  rintro e w' ⟨rfl, rfl | ⟨t, rfl⟩⟩
  ·exact ⟨rfl, Below.refl _ _⟩
  ·exact ⟨rfl, Joins.below_bytesWorld _ _ _ _ (Nat.le_refl _)⟩
 | range => rw [h] at ho; cases ho
 | _ => rw [h] at ho; cases ho
theorem atoi_bad (l : List UInt8) (n : Int) (w : World) (h : SpanW w) (hs : l.length ≤ 1048576) (ho : atoOk l = false) (hn : atoV l = n) :
  Calls Tryz.prog 52 #[.string ⟨l.toArray⟩] w fun e w' => ∃ N, e = .returned (.tuple #[.int .i64 n, .iface 215 (.pointer (some ⟨N, 0, none⟩))]) ∧ Below w.heap.size w w' := by
 unfold atoOk atoV at *
 cases h2 : Lib.atoiAll l with
 | ok v => rw [h2] at ho; cases ho
 | range =>
  rw [h2] at hn
  obtain rfl : Lib.atoiSat l = n := hn
  obtain ⟨tp, p, e1⟩ := h.rng
  refine (Any.strconv_Atoi_range_var atoiL ⟨l.toArray⟩ (by rw [str_len]; omega) h2 tp p w e1).mono ?_
  rintro e w' ⟨N, rfl, _, _, hb⟩
  exact ⟨N, rfl, hb⟩
 | _ =>
  rw [h2] at hn
  obtain rfl : 0 = n := hn
  obtain ⟨tp, p, e1⟩ := h.syn
  refine (Any.strconv_Atoi_syntax_var atoiL ⟨l.toArray⟩ (by rw [str_len]; omega) h2 tp p w e1).mono ?_
  rintro e w' ⟨N, rfl, _, _, hb⟩
  exact ⟨N, rfl, hb⟩
set_option maxRecDepth 100000 in
theorem span_Print (a b : Int) (w : World) (h : SpanW w) :
  Calls Tryz.prog 68 #[.agg #[.int .i64 a, .int .i64 b]] w fun e w' => e = .returned (.tuple #[.string ⟨(printS a b).toArray⟩, errV (okC (rightB a b))]) ∧ Below w.heap.size w w' := by
 by_cases h1 : rightB a b = true
 ·have g1 := rightB_iff.1 h1
  have hp := Lib.hid (show printS a b = Lib.itoa a ++ dots ++ Lib.itoa b by unfold printS printL; rw [if_pos h1])
  have HW := Lib.hid h
  obtain ⟨sa, ea, la, CA⟩ := itoa_let a (by omega) (by omega)
  obtain ⟨sb, eb, lb, CB⟩ := itoa_let b (by omega) (by omega)
  have hV := Lib.hid (show (⟨(printS a b).toArray⟩ : ByteArray) = sa ++ ⟨#[46, 46]⟩ ++ sb by rw [hp.out, ← ea, ← eb]; exact ByteArray.ext (by simp [ByteArray.data_append, dots]))
  have CA := Lib.hid CA
  have CB := Lib.hid CB
  have k1 : sa.size ≤ 9223372036854775805 := by omega
  have k2 : sa.size + 2 + sb.size ≤ 9223372036854775807 := by omega
  rw [hV.out]
  clear h ea eb
  go_enter Tryz.func68, Tryz.ntmps68
  go_wp2_with fail
  (try (go_at_call 31; refine (Right_any _ _ _).mono ?_; rintro e w1 ⟨rfl, hb1⟩; obtain ⟨hc1, hf1⟩ := bcell hb1; have hz1 := hb1.size; (try simp at hz1); (try have := q00_ w w1); (try have := q02_ w w1); (try have := q03_ w w1); (try have := q10_ w w1); (try have := q12_ w w1); (try have := q13_ w w1); (try have := q20_ w w1); (try have := q22_ w w1); (try have := q23_ w w1); (try have := q30_ w w1); (try have := q32_ w w1); (try have := q33_ w w1); (try go_wp2_with fail)))
  have hB1 : Below w.heap.size w w1 := bel_step hb1 BeL (by simp)
  have p0 : w1.cell? ⟨w.heap.size, 0, none⟩ = some (.int .i64 a) := by rw [hc1 _ _ oSo]; simp
  have p1 : w1.cell? ⟨w.heap.size, 1, none⟩ = some (.int .i64 b) := by rw [hc1 _ _ oSo]; simp
  have q1 : w.heap.size < w1.heap.size := by omega
  refine wp_region_held_drew (S := fun w9 => w9.cell? ⟨w.heap.size, 0, none⟩ = some (.int .i64 a) ∧ w9.cell? ⟨w.heap.size, 1, none⟩ = some (.int .i64 b)) kRf (⟨p0, p1⟩) (fun hHeld => ?_)
  refine tkH 0 (.pointer (some ⟨w.heap.size, 0, none⟩)) (some 8) rfl hHeld ?_
  try simp only [Act.put,sI_,sZ_,sS_]
  refine tkG 1 (.int .i64 a) (some 9) rfl (fun w9 hw9 => by (obtain ⟨a0, a1⟩ := hw9; go_simp)) hHeld ?_
  try simp only [Act.put,sI_,sZ_,sS_]
  refine tkH 4 (.pointer (some ⟨w.heap.size, 1, none⟩)) (some 12) rfl hHeld ?_
  try simp only [Act.put,sI_,sZ_,sS_]
  refine tkG 5 (.int .i64 b) (some 13) rfl (fun w9 hw9 => by (obtain ⟨a0, a1⟩ := hw9; go_simp)) hHeld ?_
  try simp only [Act.put,sI_,sZ_,sS_]
  try simp only [Act.put,sI_,sZ_,sS_]
  refine wpAnyH_ready (rs := [2]) kRf (by simp) ?_
  refine AllReadyH.cons rfl (fun K hK => ?_) AllReadyH.nil
  go_simp
  refine (CA.out _ (SpanW.below HW.out (hB1.trans (((Below.refl w1.heap.size w1).drew).mono hB1.size)))).mono ?_
  rintro e w2 ⟨rfl, hb2⟩
  have HB2 := Lib.hid (show Below w1.heap.size w1 w2 from (((Below.refl w1.heap.size w1).drew).trans hb2))
  clear hb2
  refine hK.out _ _ (⟨(HB2.out.cell (p := ⟨w.heap.size, 0, none⟩) q1).trans p0, (HB2.out.cell (p := ⟨w.heap.size, 1, none⟩) q1).trans p1⟩) (fun hHeld2 => ?_)
  clear hK K hHeld
  have hHeld := hHeld2
  try simp only [Act.put,sI_,sZ_,sS_]
  refine tkH 3 (.string (sa ++ ⟨#[46, 46]⟩)) (some 11) rfl hHeld ?_
  try simp only [Act.put,sI_,sZ_,sS_]
  have HB3 := Lib.hid (hB1.trans (HB2.out.mono hB1.size))
  try simp only [Act.put,sI_,sZ_,sS_]
  refine wpAnyH_ready (rs := [6]) kRf (by simp) ?_
  refine AllReadyH.cons rfl (fun K hK => ?_) AllReadyH.nil
  go_simp
  refine (CB.out _ (SpanW.below HW.out HB3.out)).mono ?_
  rintro e w3 ⟨rfl, hb3⟩
  have HB4 := Lib.hid hb3
  clear hb3
  refine hK.out _ _ (⟨(HB4.out.cell (p := ⟨w.heap.size, 0, none⟩) (by have := HB2.out.size; show w.heap.size < w2.heap.size; omega)).trans ((HB2.out.cell (p := ⟨w.heap.size, 0, none⟩) q1).trans p0), (HB4.out.cell (p := ⟨w.heap.size, 1, none⟩) (by have := HB2.out.size; show w.heap.size < w2.heap.size; omega)).trans ((HB2.out.cell (p := ⟨w.heap.size, 1, none⟩) q1).trans p1)⟩) (fun hHeld2 => ?_)
  clear hK K hHeld
  have hHeld := hHeld2
  try simp only [Act.put,sI_,sZ_,sS_]
  refine tkH 7 (.string (sa ++ ⟨#[46, 46]⟩ ++ sb)) (some 15) rfl hHeld ?_
  try simp only [Act.put,sI_,sZ_,sS_]
  refine tkH 8 (.string (sa ++ ⟨#[46, 46]⟩ ++ sb)) (some 2) rfl hHeld ?_
  try simp only [Act.put,sI_,sZ_,sS_]
  refine tkH 9 (.nilIface) (some 3) rfl hHeld ?_
  try simp only [Act.put,sI_,sZ_,sS_]
  refine wpAnyH_done kRf ?_ _
  try simp only [Act.put,sI_,sZ_,sS_]
  have hBf : Below w.heap.size w w3 := HB3.out.trans (HB4.out.mono HB3.out.size)
  clear hHeld p0 p1
  go_wp2_with fail
  refine bodyPost_ret (v := .tuple #[.string (sa ++ ⟨#[46, 46]⟩ ++ sb), errV (okC (rightB a b))]) (by simp [results, Tryz.results68, go_sem, errV, okC, h1]) rfl ⟨rfl, ?_⟩
  exact BeL
 ·have hp : printS a b = [] := by unfold printS; rw [if_neg h1]
  rw [hp]
  go_enter Tryz.func68, Tryz.ntmps68
  go_wp2_with fail
  (try (go_at_call 31; refine (Right_any _ _ _).mono ?_; rintro e w1 ⟨rfl, hb1⟩; obtain ⟨hc1, hf1⟩ := bcell hb1; have hz1 := hb1.size; (try simp at hz1); (try have := q00_ w w1); (try have := q02_ w w1); (try have := q03_ w w1); (try have := q10_ w w1); (try have := q12_ w w1); (try have := q13_ w w1); (try have := q20_ w w1); (try have := q22_ w w1); (try have := q23_ w w1); (try have := q30_ w w1); (try have := q32_ w w1); (try have := q33_ w w1); (try go_wp2_with fail)))
  refine bodyPost_ret (v := .tuple #[.string ⟨([] : List UInt8).toArray⟩, errV (okC (rightB a b))]) (by simp [results, Tryz.results68, go_sem, errV, okC, h1]) rfl ⟨rfl, ?_⟩
  exact BeL
end Go.Proofs.YtldlandcjegikaaGreatDoor
