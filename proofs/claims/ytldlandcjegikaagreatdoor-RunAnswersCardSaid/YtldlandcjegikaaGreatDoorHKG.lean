/- Texts that serve many laws, one behind the other. -/
import Derived.Deep.DeepCutAuto
import Derived.Test.YtldlandcjegikaaGreatDoorHK9
import Derived.Test.YtldlandcjegikaaGreatDoorHRSpanT
set_option linter.unusedVariables false
set_option linter.unusedSimpArgs false
namespace Go.Proofs.YtldlandcjegikaaGreatDoor

section
open Go.RowKit Go.Lib
theorem Trace.last {t t2 : Int} {us us2 : List RLetter} {S S2 : Nat → NSt} {ls os : List (List UInt8)} {l : List UInt8} (h : Trace t us S (ls ++ [l]) os t2 us2 S2) : ∃ os' o t' us' S', os = os' ++ [o] ∧ Trace t us S ls os' t' us' S' ∧ Ans t' us' S' (cmdOf l) o t2 us2 S2 := by
 generalize e : ls ++ [l] = L at h
 cases h with
 | nil => simp at e
 | snoc g a =>
  obtain ⟨e1, e2⟩ := List.append_inj' e rfl
  obtain rfl := List.cons.inj e2 |>.1
  subst e1
  exact ⟨_, _, _, _, _, rfl, g, a⟩
end


section
open Go.RowKit Go.Lib
theorem lines_cut (l : List UInt8) : ∃ init x, piecesL 10 l = init ++ [x] ∧ ((x = [] ∧ linesOf l = init) ∨ (x ≠ [] ∧ linesOf l = init ++ [x])) := by
 refine ⟨(cutD 10 l).1, (cutD 10 l).2, rfl, ?_⟩
 unfold linesOf
 by_cases h : (cutD 10 l).2 = []
 ·exact .inl ⟨h, if_pos h⟩
 ·exact .inr ⟨h, if_neg h⟩
theorem Trace.step {t0 t t1 : Int} {us0 us us1 : List RLetter} {S0 S S1 : Nat → NSt} {ls os : List (List UInt8)} (h0 : TrueR t0 us0 S0) (g : Trace t0 us0 S0 ls os t1 us1 S1) {k : Nat} {l : List UInt8} (hl : ls[k]? = some l) (h : Trace t0 us0 S0 (ls.take k) (os.take k) t us S) :
  ∃ o t2 us2 S2, os.take (k + 1) = os.take k ++ [o] ∧ Ans t us S (cmdOf l) o t2 us2 S2 ∧ Trace t0 us0 S0 (ls.take (k + 1)) (os.take (k + 1)) t2 us2 S2 := by
 obtain ⟨t2, us2, S2, g2⟩ := g.take (k + 1)
 have e : ls.take (k + 1) = ls.take k ++ [l] := by rw [List.take_add_one, hl]; rfl
 have g3 := g2
 rw [e] at g3
 obtain ⟨os', o, t', us', S', e2, g4, a⟩ := Trace.last g3
 obtain ⟨rfl, rfl, rfl, rfl⟩ := h.det h0 rfl g4
 exact ⟨o, t2, us2, S2, e2, a, g2⟩
theorem outL_bytes (os : List (List UInt8)) (o : List UInt8) : (⟨(outL os).toArray⟩ : ByteArray) ++ ⟨o.toArray⟩ ++ ⟨#[10]⟩ = ⟨(outL (os ++ [o])).toArray⟩ := by
 rw [outL_snoc]
 apply ByteArray.ext
 apply Array.ext'
 simp [ByteArray.data_append]
end


section
open Go.RowKit
def good7R (less : Bool) (d : List UInt8) : Bool := !(decide (d.length = 0) || (decide (7 < d.length) || zeroR less d)) && allR d
def num7RB (l : List UInt8) : Bool := good7R (lessR l) (bodyR l)
def num7RV (l : List UInt8) : Int := if num7RB l = true then signR (lessR l) (valR (bodyR l)) else 0
theorem num7R_13 (l : List UInt8) : num7RB l = (numRB l && decide ((bodyR l).length ≤ 7)) := by
 unfold num7RB numRB good7R goodR
 by_cases h : (bodyR l).length ≤ 7
 ·rw [decide_eq_true h, decide_eq_false (show ¬ 7 < (bodyR l).length by omega), decide_eq_false (show ¬ 13 < (bodyR l).length by omega), Bool.and_true]
 ·rw [decide_eq_false h, decide_eq_true (show 7 < (bodyR l).length by omega), Bool.and_false]
  simp
theorem num7R_val {l : List UInt8} (h : num7RB l = true) : num7RV l = atoV l := by
 have h1 := h
 rw [num7R_13, Bool.and_eq_true] at h1
 have h2 := num_of l (by rw [← num_same]; exact h1.1)
 rw [← h2.2]
 unfold num7RV numRV
 rw [if_pos h, if_pos h1.1]
theorem num7_same (l : List UInt8) : num7B l = (num7RB l && decide (0 ≤ num7RV l)) := by
 have key : num7B l = true ↔ (num7RB l && decide (0 ≤ num7RV l)) = true := by
  constructor
  ·intro h
   have h1 := h
   unfold num7B at h1
   simp only [Bool.and_eq_true, decide_eq_true_eq] at h1
   have hb : (bodyR l).length ≤ 7 := by
    unfold bodyR
    split
    ·rw [List.length_drop]; omega
    ·exact h1.2.2
   have h2 : num7RB l = true := by rw [num7R_13, num_same, h1.1, decide_eq_true hb]; rfl
   rw [h2, num7R_val h2, decide_eq_true h1.2.1]
   rfl
  ·intro h
   rw [Bool.and_eq_true, decide_eq_true_eq] at h
   obtain ⟨h1, h2⟩ := h
   rw [num7R_val h1] at h2
   have h3 := h1
   rw [num7R_13, num_same, Bool.and_eq_true, decide_eq_true_eq] at h3
   have hb := numOk_back h3.1
   have hl : lessR l = false := by
    obtain ⟨u, hu⟩ : ∃ u : Nat, atoV l = u := ⟨(atoV l).toNat, by omega⟩
    rw [hu, itoa_pos] at hb
    rw [← hb]
    have hf := digits_first u
    unfold lessR
    rw [decide_eq_false (p := (((Lib.decDigits u).getD 0 0).toNat : Int) = 45) (by omega), Bool.and_false]
   have hbd : bodyR l = l := by unfold bodyR; rw [hl]; rfl
   unfold num7B
   rw [h3.1, decide_eq_true h2, ← hbd, decide_eq_true h3.2]
   rfl
 cases h : num7B l with
 | true => exact (key.1 h).symm
 | false =>
  cases h2 : (num7RB l && decide (0 ≤ num7RV l)) with
  | true => rw [key.2 h2] at h; cases h
  | false => rfl
set_option maxRecDepth 100000 in
set_option maxHeartbeats 4000000 in
theorem r1_Number7 (s : ByteArray) (w : World) (hs : s.size ≤ 1048576) :
  Calls Tryz.prog 11 #[.string s, .int .i64 7] w fun e w' => e = .returned (.tuple #[.int .i64 (num7RV s.data.toList), .bool (num7RB s.data.toList)]) ∧ Below w.heap.size w w' := by
 have hlen : s.data.toList.length = s.size := Array.length_toList
 obtain ⟨less, eless⟩ : ∃ b, lessR s.data.toList = b := ⟨_, rfl⟩
 obtain ⟨d, ed⟩ : ∃ d : ByteArray, (if less = true then s.extract 1 s.size else s) = d := ⟨_, rfl⟩
 have hd : d.data.toList = bodyR s.data.toList := by
  unfold bodyR
  rw [eless, ← ed]
  cases less with
  | true =>
   rw [if_pos rfl, if_pos rfl, sub_bytes_r, List.take_of_length_le]
   rw [List.length_drop]; omega
  | false => rw [if_neg (by decide), if_neg (by decide)]
 have hds : d.size ≤ 1048576 := by
  rw [← ed]
  cases less with
  | true => rw [if_pos rfl]; simp; omega
  | false => rw [if_neg (by decide)]; exact hs
 have hB : num7RB s.data.toList = good7R less d.data.toList := by unfold num7RB; rw [eless, hd]
 have hV : num7RV s.data.toList = if good7R less d.data.toList = true then signR less (valR d.data.toList) else 0 := by unfold num7RV; rw [hB, eless, hd]
 rw [hB, hV]
 have hsl : lessR s.data.toList = (decide (1 < s.size) && decide (((s.data.toList.getD 0 0).toNat : Int) = 45)) := by unfold lessR; rw [hlen]
 rw [eless] at hsl
 have HSL := Lib.hid hsl
 have ED := Lib.hid ed
 have HX0 := Lib.hid (fun h w => idx_r s 0 h 0 rfl w)
 obtain ⟨c0, ec0⟩ : ∃ c : Int, ((s.data.toList.getD 0 0).toNat : Int) = c := ⟨_, rfl⟩
 rw [ec0] at HSL HX0
 clear hB hV hsl ed hd eless ec0 hlen
 have hl : d.data.toList.length = d.size := Array.length_toList
 have HL := Lib.hid hl
 have HG : Hid (∀ k (hk : k < d.size), ((d[k]'hk).toNat : Int) = ((d.data.toList.getD k 0).toNat : Int)) := Lib.hid (fun k hk => by
  rw [List.getD_eq_getElem?_getD, List.getElem?_eq_getElem (by simpa using hk)]; simp; rfl)
 have HY0 := Lib.hid (fun h w => idx_r d 0 h 0 rfl w)
 have HE := Lib.hid (empty_iff d)
 obtain ⟨bad, ebad⟩ : ∃ b, (decide (d.data.toList.length = 0) || (decide (7 < d.data.toList.length) || zeroR less d.data.toList)) = b := ⟨_, rfl⟩
 have HGd := Lib.hid (show good7R less d.data.toList = (!bad && allR d.data.toList) by unfold good7R; rw [ebad])
 unfold zeroR at ebad
 rw [hl] at ebad
 have HBd := Lib.hid ebad
 obtain ⟨c1, ec1⟩ : ∃ c : Int, ((d.data.toList.getD 0 0).toNat : Int) = c := ⟨_, rfl⟩
 rw [ec1] at HBd HY0
 obtain ⟨l, el⟩ : ∃ l, d.data.toList = l := ⟨_, rfl⟩
 rw [el] at HL HG HGd ⊢
 obtain ⟨B, eB⟩ : ∃ B, good7R less l = B := ⟨_, rfl⟩
 obtain ⟨V, eV⟩ : ∃ V, (if good7R less l = true then signR less (valR l) else 0) = V := ⟨_, rfl⟩
 have HF := Lib.hid (show good7R less l = false → V = 0 ∧ B = false from fun h => ⟨by rw [← eV, h]; rfl, by rw [← eB, h]⟩)
 have HT := Lib.hid (show good7R less l = true → V = signR less (valR l) ∧ B = true from fun h => ⟨by rw [← eV, if_pos h], by rw [← eB, h]⟩)
 rw [eV, eB]
 clear hl ebad ec1 el eB eV
 go_enter Tryz.func11, Tryz.ntmps11
 go_upto_region 1 with fail
 go_cut [6] (fun s6 wx => s6 = .bool less ∧ wx = w)
 case first =>
  by_cases k1 : 1 < s.size
  ·have x0 := HX0.out (by omega)
   by_cases k2 : c0 = 45
   ·have e := Lib.hid (show less = true by rw [HSL.out, decide_eq_true k1, decide_eq_true k2]; rfl)
    subst k2
    go_wp2_with fail
    go_meet
    case rel => exact ⟨by rw [e.out], rfl⟩
   ·have e := Lib.hid (show less = false by rw [HSL.out, decide_eq_false k2, Bool.and_false])
    go_wp2_with fail
    go_meet
    case rel => exact ⟨by rw [e.out]; simp [k2], rfl⟩
  ·have e := Lib.hid (show less = false by rw [HSL.out, decide_eq_false k1]; rfl)
   go_wp2_with fail
   go_meet
   case rel => exact ⟨by rw [e.out], rfl⟩
 case rest =>
 obtain ⟨rfl, rfl⟩ := hcut
 go_upto_if 17 with fail
 go_cut [0] (fun s0 wx => s0 = .string d ∧ wx = wc)
 case first =>
  cases less
  ·have e := Lib.hid (show s = d by rw [← ED.out]; rfl)
   go_wp2_with fail
   go_meet
   case rel => exact ⟨by rw [e.out], rfl⟩
  ·have e := Lib.hid (show s.extract 1 s.size = d by rw [← ED.out]; rfl)
   have k1 : 1 < s.size := by
    have h := HSL.out
    rcases Nat.lt_or_ge 1 s.size with h1 | h1
    ·exact h1
    ·rw [decide_eq_false (by omega)] at h; cases h
   have u0 : (1 : Int) ≤ (s.size : Int) := by omega
   go_wp2_with fail
   go_meet
   case rel => exact ⟨by rw [← e.out], rfl⟩
 case rest =>
 obtain ⟨rfl, hwq⟩ := hcut
 subst hwq
 clear HX0 HSL ED
 go_upto_region 4 with fail
 go_cut [40] (fun s40 wx => s40 = .bool bad ∧ wx = wc)
 case first =>
  by_cases k1 : d.size = 0
  ·have e := Lib.hid (show bad = true by rw [← HBd.out, decide_eq_true k1]; rfl)
   have hE := HE.out.2 k1
   go_wp2_with fail
   go_meet
   case rel => exact ⟨by rw [e.out], rfl⟩
  ·have hE : ¬ d.toList = [] := fun h => k1 (HE.out.1 h)
   by_cases k2 : 7 < d.size
   ·have e := Lib.hid (show bad = true by rw [← HBd.out, decide_eq_true k2, Bool.true_or, Bool.or_true])
    go_wp2_with fail
    go_meet
    case rel => exact ⟨by rw [e.out], rfl⟩
   ·have y0 := HY0.out (by omega)
    have k2i : ¬ (7 : Int) < (d.size : Int) := by omega
    by_cases k3 : c1 = 48
    ·by_cases k4 : 1 < d.size
     ·have e := Lib.hid (show bad = true by rw [← HBd.out, decide_eq_true k3, decide_eq_true k4]; simp)
      subst k3
      go_wp2_with fail
      go_meet
      case rel => exact ⟨by rw [e.out], rfl⟩
     ·have e := Lib.hid (show bad = less by rw [← HBd.out, decide_eq_false k1, decide_eq_false k2, decide_eq_true k3, decide_eq_false k4]; simp)
      have k4i : ¬ (1 : Int) < (d.size : Int) := by omega
      subst k3
      go_wp2_with fail
      go_meet
      case rel => exact ⟨by rw [e.out]; simp [hE, k2i, k4i], rfl⟩
    ·have e := Lib.hid (show bad = false by rw [← HBd.out, decide_eq_false k1, decide_eq_false k2, decide_eq_false k3]; simp)
     go_wp2_with fail
     go_meet
     case rel => exact ⟨by rw [e.out]; simp [k3, hE], rfl⟩
 case rest =>
 obtain ⟨rfl, hwq⟩ := hcut
 subst hwq
 cases bad with
 | true =>
  have e := Lib.hid (show good7R less l = false by rw [HGd.out]; rfl)
  go_wp2_with fail
  go_ret2
  obtain ⟨e1, e2⟩ := HF.out e.out
  exact ⟨by rw [e1, e2]; rfl, BeL⟩
 | false =>
  have hd7 : d.size ≤ 7 := by
   rcases Nat.lt_or_ge 7 d.size with h1 | h1
   ·have h := HBd.out
    rw [decide_eq_true h1] at h
    simp at h
   ·exact h1
  have HG2 := Lib.hid (show good7R less l = allR l by rw [HGd.out]; rfl)
  clear HGd HBd HE HY0
  go_wp2
  go_loop [7, 8] (fun n i => ∃ k : Nat, k ≤ d.size ∧ i = .int .i64 k ∧ n = .int .i64 (valR (l.take k)) ∧ allR (l.take k) = true) (fun _ i => d.size - (intOf i).toNat)
  case atStart => exact ⟨0, by omega, rfl, by simp [valR], by simp [allR]⟩
  case round =>
   obtain ⟨k, hk, rfl, rfl, hB⟩ := hrel
   obtain ⟨b0, b1⟩ := valR_bd (l.take k) hB (by rw [List.length_take]; omega)
   by_cases hlt : k < d.size
   ·have hg := HG.out k hlt
    have ht := take_snoc_r (l := l) (k := k) (by rw [HL.out]; exact hlt)
    have HS := Lib.hid (show valR (l.take (k + 1)) = valR (l.take k) * 10 + (((l.getD k 0).toNat : Int) - 48) by rw [ht, valR_snoc])
    have HS2 := Lib.hid (show allR (l.take (k + 1)) = digR (l.getD k 0) by rw [ht, allR_snoc, hB, Bool.true_and])
    have hc0 : ((l.getD k 0).toNat : Int) < 256 := by have := (l.getD k 0).toNat_lt; omega
    have hD := Lib.hid (digR_iff (l.getD k 0))
    obtain ⟨q, eq⟩ : ∃ q, digR (l.getD k 0) = q := ⟨_, rfl⟩
    rw [eq] at HS2 hD
    obtain ⟨c, ec⟩ : ∃ c : Int, ((l.getD k 0).toNat : Int) = c := ⟨_, rfl⟩
    obtain ⟨N, eN⟩ : ∃ N, valR (l.take k) = N := ⟨_, rfl⟩
    have hc1 : 0 ≤ c := by omega
    rw [ec] at hg hc0 HS hD
    rw [eN] at b0 b1 HS ⊢
    clear ec eN eq ht hB
    by_cases d1 : 48 ≤ c ∧ c ≤ 57
    ·have HQ := Lib.hid (show q = true from hD.out.2 d1)
     obtain ⟨d1, d2⟩ := d1
     go_wp2
     go_round
     case rel => exact ⟨k + 1, by omega, by go_num, by rw [HS.out]; first | rfl | (congr 1; omega), by rw [HS2.out, HQ.out]⟩
     case measure => simp [intOf]; omega
    ·have HQ := Lib.hid (show allR l = false from allR_take (k := k + 1) (by rw [HS2.out]; cases q; rfl; exact absurd (hD.out.1 rfl) d1))
     rcases (show c < 48 ∨ (¬ c < 48 ∧ 57 < c) by omega) with d2 | ⟨d2, d3⟩
     all_goals
      clear d1
      go_wp2
      go_ret2
      obtain ⟨e1, e2⟩ := HF.out (HG2.out.trans HQ.out)
      exact ⟨by rw [e1, e2]; rfl, BeL⟩
   ·have : k = d.size := by omega
    subst this
    rw [List.take_of_length_le (by rw [HL.out]; omega)] at hB b0 b1 ⊢
    have HB := Lib.hid hB
    clear hB
    cases less
    ·go_wp2
     go_ret2
     obtain ⟨e1, e2⟩ := HT.out (HG2.out.trans HB.out)
     exact ⟨by rw [e1, e2]; rfl, BeL⟩
    ·go_wp2
     go_ret2
     obtain ⟨e1, e2⟩ := HT.out (HG2.out.trans HB.out)
     exact ⟨by rw [e1, e2]; rfl, BeL⟩
end


section
open Go.RowKit
set_option maxRecDepth 100000 in
set_option maxHeartbeats 4000000 in
theorem r2_name (c : Int) (w : World) (h0 : 0 ≤ c) (h8 : c ≤ 8) : Calls Tryz.prog 21 #[.int .i64 c] w fun e w' => e = .returned (.string ⟨(nameL c).toArray⟩) ∧ Below w.heap.size w w' := by
 have hc : c = 0 ∨ c = 1 ∨ c = 2 ∨ c = 3 ∨ c = 4 ∨ c = 5 ∨ c = 6 ∨ c = 7 ∨ c = 8 := by omega
 clear h0 h8
 rcases hc with rfl | rfl | rfl | rfl | rfl | rfl | rfl | rfl | rfl
 ·rw [show nameL 0 = [79, 75] from rfl]
  go_enter Tryz.func21, Tryz.ntmps21
  go_wp2_with fail
  go_ret
  exact ⟨rfl, BeL⟩
 ·rw [show nameL 1 = [69, 114, 114, 82, 97, 110, 103, 101] from rfl]
  go_enter Tryz.func21, Tryz.ntmps21
  go_wp2_with fail
  go_ret
  exact ⟨rfl, BeL⟩
 ·rw [show nameL 2 = [69, 114, 114, 83, 121, 110, 116, 97, 120] from rfl]
  go_enter Tryz.func21, Tryz.ntmps21
  go_wp2_with fail
  go_ret
  exact ⟨rfl, BeL⟩
 ·rw [show nameL 3 = [69, 114, 114, 83, 104, 97, 112, 101] from rfl]
  go_enter Tryz.func21, Tryz.ntmps21
  go_wp2_with fail
  go_ret
  exact ⟨rfl, BeL⟩
 ·rw [show nameL 4 = [69, 114, 114, 70, 117, 108, 108] from rfl]
  go_enter Tryz.func21, Tryz.ntmps21
  go_wp2_with fail
  go_ret
  exact ⟨rfl, BeL⟩
 ·rw [show nameL 5 = [69, 114, 114, 78, 111, 110, 101] from rfl]
  go_enter Tryz.func21, Tryz.ntmps21
  go_wp2_with fail
  go_ret
  exact ⟨rfl, BeL⟩
 ·rw [show nameL 6 = [69, 114, 114, 83, 116, 97, 116, 101] from rfl]
  go_enter Tryz.func21, Tryz.ntmps21
  go_wp2_with fail
  go_ret
  exact ⟨rfl, BeL⟩
 ·rw [show nameL 7 = [69, 114, 114, 67, 108, 97, 115, 104] from rfl]
  go_enter Tryz.func21, Tryz.ntmps21
  go_wp2_with fail
  go_ret
  exact ⟨rfl, BeL⟩
 ·rw [show nameL 8 = [69, 114, 114, 66, 97, 99, 107] from rfl]
  go_enter Tryz.func21, Tryz.ntmps21
  go_wp2_with fail
  go_ret
  exact ⟨rfl, BeL⟩
theorem offS_cbd (a b c d p : Int) : 0 ≤ (offS a b c d p).c ∧ (offS a b c d p).c ≤ 8 := by
 have h1 : 0 ≤ probeC a b c d ∧ probeC a b c d ≤ 8 := by unfold probeC; (repeat' split) <;> constructor <;> decide
 unfold offS
 (repeat' split) <;> first | exact h1 | (constructor <;> (simp only []; omega)) | (constructor <;> decide)
theorem hears_cbd {s s' : NSt} {L : RLetter} {here c : Int} {b : Bool} (h : Hears s L here b c s') : 0 ≤ c ∧ c ≤ 8 := by
 cases h with
 | bad => exact offS_cbd _ _ _ _ _
 | _ => constructor <;> decide
theorem wact_cbd {n : Nat} {ss rs : List Int} {t t' : Int} {us us' : List RLetter} {A : RAct} {c : Int} {g : Option RLetter} (h : WAct n ss rs t us A c g t' us') : 0 ≤ c ∧ c ≤ 8 := by
 cases h <;> (constructor <;> decide)
theorem wans_cbd {n : Nat} {ss rs : List Int} {t : Int} {us us' : List RLetter} {L : RLetter} {c : Int} (h : WAns n ss rs t us L c us') : 0 ≤ c ∧ c ≤ 8 := by
 cases h <;> (constructor <;> decide)
theorem nact_cbd {n : Nat} {ss rs : List Int} {t t' : Int} {us us' : List RLetter} {S S' : Nat → NSt} {A : RAct} {c : Int} (h : NAct n ss rs t us S A c t' us' S') : 0 ≤ c ∧ c ≤ 8 := by
 cases h with
 | quiet _ _ _ hw => exact wact_cbd hw
 | bad _ _ _ _ _ _ _ _ _ hw hd hs hr hh hc => exact hears_cbd hh
 | told => constructor <;> decide
 | asked _ _ _ _ _ _ _ _ _ _ hw hd hs hr hh ha hx => exact wans_cbd hx
end
end Go.Proofs.YtldlandcjegikaaGreatDoor
