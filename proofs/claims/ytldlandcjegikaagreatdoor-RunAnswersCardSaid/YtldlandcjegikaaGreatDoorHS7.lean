/- Texts that serve many laws, one behind the other. -/
import Derived.BigRegion
import Derived.Deep.CutBlock
import Derived.Deep.DeepCutAuto
import Derived.Deep.Light
import Derived.Test.YtldlandcjegikaaGreatDoorHRBnd
import Derived.Test.YtldlandcjegikaaGreatDoorHS6
import Derived.Test.YtldlandcjegikaaGreatDoorHSNetH
import Derived.Test.YtldlandcjegikaaGreatDoorHSNetK
set_option linter.unusedVariables false
set_option linter.unusedSimpArgs false
namespace Go.Proofs.YtldlandcjegikaaGreatDoor

section
open Go.RowKit
variable {W0 w : World} {b : SAd} {A1 A2 : Option Addr} {c1 c2 : Nat} {p t t' : Int} {uv : Value} {us us' : List RLetter} {S S' : Nat → NSt}
theorem snet_Do (ss rs : List Int) (A : RAct) (c : Int) (h : SNetAt W0 w b A1 A2 c1 c2 p t uv us S) (i1 : IsInts W0 A1 b.n c1 ss) (i2 : IsInts W0 A2 b.n c2 rs) (hA : A.ok) (n6 : b.n ≤ 6) (sb : ∀ (i : Nat) z, ss[i]? = some z → 0 ≤ z ∧ z ≤ 1000000) (rb : ∀ (i : Nat) z, rs[i]? = some z → -1000 ≤ z ∧ z ≤ 1000) (ha : NAct b.n ss rs t us S A c t' us' S') :
  Calls Tryz.prog 20 #[.pointer (some ⟨b.M, 0, none⟩), .agg #[.int .i64 A.what, .int .i64 A.a, .int .i64 A.b]] w (SNetDone W0 w b A1 A2 c1 c2 p uv c t' us' S') := by
 cases ha with
 | quiet _ _ _ hw => exact snet_Do_quiet ss rs A c none h i1 i2 hA n6 sb rb hw rfl
 | bad _ _ L d s r q _ s' hw hd hs hr hh hc => exact snet_Do_far ss rs A 0 (some L) L d s r q c s' h i1 i2 hA n6 sb rb hw rfl rfl hd hs hr hh (.inl hc)
 | told _ _ L d s r q s' hw hd hs hr hh ha => exact snet_Do_far ss rs A 0 (some L) L d s r q 0 s' h i1 i2 hA n6 sb rb hw rfl rfl hd hs hr hh (.inr ha)
 | asked _ us1 _ L d s r q _ s' hw hd hs hr hh ha hwa => exact snet_Do_asked ss rs A 0 (some L) L d s r q 0 s' c us' h i1 i2 hA n6 sb rb hw rfl rfl hd hs hr hh rfl ha hwa
end


section
open Go.RowKit
variable {W0 w w' : World} {b : SAd} {A1 A2 : Option Addr} {c1 c2 : Nat} {p t t' : Int} {uv uv' : Value} {us us' : List RLetter} {S : Nat → NSt}
theorem node_ways {N : Nat} {a b : Int} {NB : Bool} (h : (nodeB N a && nodeB N b) = NB) : (NB = false ∧ a < 0) ∨ (NB = false ∧ ¬ a < 0 ∧ (N : Int) ≤ a) ∨ (NB = false ∧ ¬ a < 0 ∧ ¬ (N : Int) ≤ a ∧ b < 0) ∨ (NB = false ∧ ¬ a < 0 ∧ ¬ (N : Int) ≤ a ∧ ¬ b < 0 ∧ (N : Int) ≤ b) ∨ (NB = true ∧ ¬ a < 0 ∧ ¬ (N : Int) ≤ a ∧ ¬ b < 0 ∧ ¬ (N : Int) ≤ b) := by
 subst h
 have key : (nodeB N a && nodeB N b) = true ↔ (0 ≤ a ∧ a < N) ∧ (0 ≤ b ∧ b < N) := by rw [Bool.and_eq_true, nodeB_iff, nodeB_iff]
 by_cases h1 : a < 0
 ·exact .inl ⟨Bool.eq_false_iff.2 fun q => by have := key.1 q; omega, h1⟩
 by_cases h2 : (N : Int) ≤ a
 ·exact .inr (.inl ⟨Bool.eq_false_iff.2 fun q => by have := key.1 q; omega, h1, h2⟩)
 by_cases h3 : b < 0
 ·exact .inr (.inr (.inl ⟨Bool.eq_false_iff.2 fun q => by have := key.1 q; omega, h1, h2, h3⟩))
 by_cases h4 : (N : Int) ≤ b
 ·exact .inr (.inr (.inr (.inl ⟨Bool.eq_false_iff.2 fun q => by have := key.1 q; omega, h1, h2, h3, h4⟩)))
 ·exact .inr (.inr (.inr (.inr ⟨key.2 ⟨⟨by omega, by omega⟩, by omega, by omega⟩, h1, h2, h3, h4⟩)))
def OffRP (n : Nat) (h : Nat → Int) (S : Nat → NSt) (a b : Int) (w w' : World) (e : Ending) : Prop :=
 ∃ (x : RSpan) (c : Int), e = .returned (.tuple #[.agg #[.int .i64 x.lo, .int .i64 x.hi], .int .i64 c]) ∧ OffR n h S a b x c ∧ Below w.heap.size w w'
set_option maxRecDepth 100000 in
set_option maxHeartbeats 8000000 in
theorem snet_Offset (ss rs : List Int) (h : SNetAt W0 w b A1 A2 c1 c2 p t uv us S) (i1 : IsInts W0 A1 b.n c1 ss) (i2 : IsInts W0 A2 b.n c2 rs) (n1 : 1 ≤ b.n) (n6 : b.n ≤ 6) (sb : ∀ (i : Nat) z, ss[i]? = some z → 0 ≤ z ∧ z ≤ 1000000) (rb : ∀ (i : Nat) z, rs[i]? = some z → -1000 ≤ z ∧ z ≤ 1000) (x y : Int) :
  Calls Tryz.prog 23 #[.pointer (some ⟨b.M, 0, none⟩), .int .i64 x, .int .i64 y] w fun e w' => OffRP b.n (hereAt ss rs t) S x y w w' e := by
 have kM := h.W.blk.lt
 have hnc := h.nd.1
 have hcm := h.nd.2
 unfold maxLen at hcm
 have z4 : w.cell? ⟨b.M, 4, none⟩ = some (.slice (some ⟨b.Q, 0, none⟩) b.n b.d) := h.W.blk.cell 4
 have CE := Lib.hid (fun W (hb : Below w.heap.size w W) => snet_Edges ss rs (h.below hb) i1 i2 n6 sb rb)
 have HE0 := Lib.hid (fun hc => netL_edgesC (n := b.n) (h := hereAt ss rs t) (S := S) n1 n6 (fun i hi => ⟨(h.sN i hi).1, (h.sN i hi).2.1⟩) hc)
 have HLen := Lib.hid (netL_len (h := hereAt ss rs t) (S := S) (n := b.n) (fun i hi => (h.sN i hi).1) b.n (Nat.le_refl _))
 have hmul := Nat.mul_le_mul n6 n6
 clear h i1 i2 sb rb
 obtain ⟨NB, hnb⟩ : ∃ NB, (nodeB (b.n : Int) x && nodeB (b.n : Int) y) = NB := ⟨_, rfl⟩
 have HNB := Lib.hid hnb
 rcases node_ways hnb with ⟨rfl, g1⟩ | ⟨rfl, g1, g2⟩ | ⟨rfl, g1, g2, g3⟩ | ⟨rfl, g1, g2, g3, g4⟩ | ⟨rfl, g1, g2, g3, g4⟩
 iterate 4
  ·have HO := Lib.hid (show OffR b.n (hereAt ss rs t) S x y ⟨0, 0⟩ 1 from .inl ⟨hnb, rfl, rfl⟩)
   clear hnb HE0 HLen hmul CE
   go_enter Tryz.func23, Tryz.ntmps23
   go_wp2_with fail
   refine bodyPost_ret (v := .tuple #[.agg #[.int .i64 0, .int .i64 0], .int .i64 1]) (by simp [results, Tryz.results23, go_sem]) rfl ?_
   exact ⟨⟨0, 0⟩, 1, rfl, HO.out, BeL⟩
 ·obtain ⟨i, rfl⟩ := Int.eq_ofNat_of_zero_le (show 0 ≤ x by omega)
  obtain ⟨k, rfl⟩ := Int.eq_ofNat_of_zero_le (show 0 ≤ y by omega)
  have d1 : i < b.n := by omega
  have d2 : k < b.n := by omega
  have k1 : (i : Int) < (b.n : Int) := by omega
  have k2 : (k : Int) < (b.n : Int) := by omega
  have k3 : (0 : Int) ≤ (i : Int) := by omega
  have k4 : (0 : Int) ≤ (k : Int) := by omega
  clear hnb
  go_enter Tryz.func23, Tryz.ntmps23
  go_wp2_with fail
  refine (CE.out _ (by exact BeL)).mono ?_
  rintro e w1 ⟨A, n, c, rfl, hI, hb1⟩
  have hbr : Blk w1 w.heap.size 34 #[.int .i64 0, .int .i64 0] := (Blk.new w _ _).below hb1 (by simp)
  have HB1 := Lib.hid (show Below w.heap.size w w1 by exact BeL)
  have r0 : w1.cell? ⟨w.heap.size, 0, none⟩ = some (.int .i64 0) := hbr.cell 0
  have r1 : w1.cell? ⟨w.heap.size, 1, none⟩ = some (.int .i64 0) := hbr.cell 1
  have f0 : w1.frozen? ⟨w.heap.size, 0, none⟩ = false := hbr.fz 0
  have f1 : w1.frozen? ⟨w.heap.size, 1, none⟩ = false := hbr.fz 1
  have hl := hbr.lt
  have HI := Lib.hid hI
  have HBr := Lib.hid hbr
  have y4 : w1.cell? ⟨b.M, 4, none⟩ = some (.slice (some ⟨b.Q, 0, none⟩) b.n b.d) := (HB1.out.cell (p := ⟨b.M, 4, none⟩) kM).trans z4
  clear hI hb1 hbr CE
  by_cases hc : netC (hereAt ss rs t) S b.n = 0
  ·have he := HE0.out hc
   have HC := Lib.hid hc
   have hI := HI.out
   unfold netE at hI
   rw [if_pos hc] at hI
   have hn := hI.1
   have CB := Lib.hid (r2_Bounds b.n A n c (netL (hereAt ss rs t) S b.n) w1 hI n1 n6 (by have := HLen.out; omega) (by have := (edgesC_0 he).2.2.2; simpa using this))
   rw [hc]
   clear hc he hI HI HE0 HLen hmul hn
   go_wp2_with fail
   refine CB.out.mono ?_
   rintro e w2 (⟨hs, rfl, hb2⟩ | ⟨hs, D, H, hD, hb2, ⟨hF, rfl⟩ | ⟨hF, P, Q, m, q, rfl, hM, hH⟩⟩)
   ·have HO := Lib.hid (show OffR b.n (hereAt ss rs t) S i k ⟨0, 0⟩ 7 from .inr ⟨HNB.out, .inr ⟨HC.out, .inl ⟨hs, rfl, rfl⟩⟩⟩)
    have hbr2 := HBr.out.below hb2 hl
    have r0 : w2.cell? ⟨w.heap.size, 0, none⟩ = some (.int .i64 0) := hbr2.cell 0
    have r1 : w2.cell? ⟨w.heap.size, 1, none⟩ = some (.int .i64 0) := hbr2.cell 1
    have f0 : w2.frozen? ⟨w.heap.size, 0, none⟩ = false := hbr2.fz 0
    have f1 : w2.frozen? ⟨w.heap.size, 1, none⟩ = false := hbr2.fz 1
    have hl2 := hbr2.lt
    have hB2 : Below w.heap.size w w2 := HB1.out.trans (hb2.mono HB1.out.size)
    clear hs hb2 hbr2 CB HBr
    go_wp2_with fail
    refine bodyPost_ret (v := .tuple #[.agg #[.int .i64 0, .int .i64 0], .int .i64 7]) (by simp [results, Tryz.results23, go_sem, r0, r1]) rfl ?_
    exact ⟨⟨0, 0⟩, 7, rfl, HO.out, BeL⟩
   ·have HO := Lib.hid (show OffR b.n (hereAt ss rs t) S i k ⟨0, 0⟩ 1 from .inr ⟨HNB.out, .inr ⟨HC.out, .inr ⟨hs, D, H, hD, .inl ⟨hF, rfl, rfl⟩⟩⟩⟩)
    have hbr2 := HBr.out.below hb2 hl
    have r0 : w2.cell? ⟨w.heap.size, 0, none⟩ = some (.int .i64 0) := hbr2.cell 0
    have r1 : w2.cell? ⟨w.heap.size, 1, none⟩ = some (.int .i64 0) := hbr2.cell 1
    have f0 : w2.frozen? ⟨w.heap.size, 0, none⟩ = false := hbr2.fz 0
    have f1 : w2.frozen? ⟨w.heap.size, 1, none⟩ = false := hbr2.fz 1
    have hl2 := hbr2.lt
    have hB2 : Below w.heap.size w w2 := HB1.out.trans (hb2.mono HB1.out.size)
    clear hs hb2 hbr2 CB HBr hD hF
    go_wp2_with fail
    refine bodyPost_ret (v := .tuple #[.agg #[.int .i64 0, .int .i64 0], .int .i64 1]) (by simp [results, Tryz.results23, go_sem, r0, r1]) rfl ?_
    exact ⟨⟨0, 0⟩, 1, rfl, HO.out, BeL⟩
   ·have hbr2 := HBr.out.below hb2 hl
    have r0 : w2.cell? ⟨w.heap.size, 0, none⟩ = some (.int .i64 0) := hbr2.cell 0
    have r1 : w2.cell? ⟨w.heap.size, 1, none⟩ = some (.int .i64 0) := hbr2.cell 1
    have f0 : w2.frozen? ⟨w.heap.size, 0, none⟩ = false := hbr2.fz 0
    have f1 : w2.frozen? ⟨w.heap.size, 1, none⟩ = false := hbr2.fz 1
    have hl2 := hbr2.lt
    have hB2 : Below w.heap.size w w2 := HB1.out.trans (hb2.mono HB1.out.size)
    obtain ⟨-, m1, m2, b1, rfl, hl1, hM⟩ := hM
    obtain ⟨-, q1, q2, b2, rfl, hl3, hH⟩ := hH
    unfold maxLen at m2 q2
    obtain ⟨r3, e3, s1, s2, s3, s4, s5⟩ := hM i d1
    obtain ⟨r4, e4, t1, t2, t3, t4, t5⟩ := hH i d1
    unfold maxLen at s3 t3
    have x5 := t5 k d2 0 _ rfl
    simp only [Nat.mul_one, Nat.add_zero] at x5
    cases hh : H i k
    ·rw [hh] at x5
     have HO := Lib.hid (show OffR b.n (hereAt ss rs t) S i k ⟨0, 0⟩ 5 from .inr ⟨HNB.out, .inr ⟨HC.out, .inr ⟨hs, D, H, hD, .inr ⟨hF, i, k, rfl, rfl, d1, d2, .inl ⟨hh, rfl, rfl⟩⟩⟩⟩⟩)
     clear hs hb2 hbr2 CB HBr hD hF hh hM hH s5 t5
     go_wp2_with fail
     refine bodyPost_ret (v := .tuple #[.agg #[.int .i64 0, .int .i64 0], .int .i64 5]) (by simp [results, Tryz.results23, go_sem, r0, r1]) rfl ?_
     exact ⟨⟨0, 0⟩, 5, rfl, HO.out, BeL⟩
    ·rw [hh] at x5
     have x3 := s5 k d2 0 _ rfl
     have x4 := s5 k d2 1 _ rfl
     simp only [Nat.add_zero] at x3
     have hB : bndS D H i k = ⟨-(D k i), D i k⟩ := by unfold bndS; rw [if_pos hh]
     rw [hB] at x3 x4
     have HO := Lib.hid (show OffR b.n (hereAt ss rs t) S i k ⟨-(D k i), D i k⟩ 0 from .inr ⟨HNB.out, .inr ⟨HC.out, .inr ⟨hs, D, H, hD, .inr ⟨hF, i, k, rfl, rfl, d1, d2, .inr ⟨hh, rfl, rfl⟩⟩⟩⟩⟩)
     obtain ⟨v1, hv1⟩ : ∃ v, D i k = v := ⟨_, rfl⟩
     obtain ⟨v2, hv2⟩ : ∃ v, -(D k i) = v := ⟨_, rfl⟩
     rw [hv1, hv2] at x3 x4 HO
     have hF5 : Blk ((w2.setCell ⟨w.heap.size, 0, none⟩ (.int .i64 v2)).setCell ⟨w.heap.size, 1, none⟩ (.int .i64 v1)) w.heap.size 34 #[.int .i64 v2, .int .i64 v1] := ((hbr2.set 0 _).set 1 _).conv rfl
     have z0 := hF5.cell 0
     have z1 := hF5.cell 1
     clear hs hb2 hbr2 CB HBr hD hF hh hM hH s5 t5 hv1 hv2 hB hF5
     go_wp2_with fail
     refine bodyPost_ret (v := .tuple #[.agg #[.int .i64 v2, .int .i64 v1], .int .i64 0]) (by simp at z0 z1; simp [results, Tryz.results23, go_sem, z0, z1]) rfl ?_
     exact ⟨⟨v2, v1⟩, 0, rfl, HO.out, BeL⟩
  ·have HO := Lib.hid (show OffR b.n (hereAt ss rs t) S i k ⟨0, 0⟩ (netC (hereAt ss rs t) S b.n) from .inr ⟨HNB.out, .inl ⟨hc, rfl, rfl⟩⟩)
   obtain ⟨cc, hcc⟩ : ∃ cc, netC (hereAt ss rs t) S b.n = cc := ⟨_, rfl⟩
   rw [hcc] at hc HO ⊢
   have hq : (cc == 0) = false := by simpa using hc
   clear hcc HI HE0
   go_wp2_with fail
   refine bodyPost_ret (v := .tuple #[.agg #[.int .i64 0, .int .i64 0], .int .i64 cc]) (by simp [results, Tryz.results23, go_sem, r0, r1]) rfl ?_
   have hB1 := HB1.out
   exact ⟨⟨0, 0⟩, cc, rfl, HO.out, BeL⟩
end


section
open Go.RowKit
variable {W0 w w' : World} {b : SAd} {A1 A2 : Option Addr} {c1 c2 : Nat} {p t t' : Int} {uv uv' : Value} {us us' : List RLetter} {S : Nat → NSt}
def WideRP (n : Nat) (h : Nat → Int) (S : Nat → NSt) (w w' : World) (e : Ending) : Prop :=
 ∃ v c : Int, e = .returned (.tuple #[.int .i64 v, .int .i64 c]) ∧ WideR n h S v c ∧ Below w.heap.size w w'
theorem wideG_bd {N : Nat} {D : Nat → Nat → Int} {H : Nat → Nat → Bool} {l : List REdge} (hD : Tells (Arc l) N D H) (hF : TimeS N D H 0) : ∀ i k, i < N → k < N → -2000000000000 ≤ wideG D H i k ∧ wideG D H i k ≤ 2000000000000 := by
 intro i k hi hk
 unfold wideG
 split
 ·rename_i g
  rcases hF with ⟨_, hF⟩ | ⟨hF, _⟩
  ·have q1 := hF i k hi hk g
   have q2 := hF k i hk hi (tells_rev hD hi hk g)
   rw [timeB_iff] at q1 q2
   omega
  ·exact absurd hF (by decide)
 ·omega
set_option maxRecDepth 100000 in
set_option maxHeartbeats 8000000 in
theorem snet_Wide (ss rs : List Int) (h : SNetAt W0 w b A1 A2 c1 c2 p t uv us S) (i1 : IsInts W0 A1 b.n c1 ss) (i2 : IsInts W0 A2 b.n c2 rs) (n1 : 1 ≤ b.n) (n6 : b.n ≤ 6) (sb : ∀ (i : Nat) z, ss[i]? = some z → 0 ≤ z ∧ z ≤ 1000000) (rb : ∀ (i : Nat) z, rs[i]? = some z → -1000 ≤ z ∧ z ≤ 1000) :
  Calls Tryz.prog 25 #[.pointer (some ⟨b.M, 0, none⟩)] w fun e w' => WideRP b.n (hereAt ss rs t) S w w' e := by
 have kM := h.W.blk.lt
 have hnc := h.nd.1
 have hcm := h.nd.2
 unfold maxLen at hcm
 have z4 : w.cell? ⟨b.M, 4, none⟩ = some (.slice (some ⟨b.Q, 0, none⟩) b.n b.d) := h.W.blk.cell 4
 have CE := Lib.hid (snet_Edges ss rs h i1 i2 n6 sb rb)
 have HE0 := Lib.hid (fun hc => netL_edgesC (n := b.n) (h := hereAt ss rs t) (S := S) n1 n6 (fun i hi => ⟨(h.sN i hi).1, (h.sN i hi).2.1⟩) hc)
 have HLen := Lib.hid (netL_len (h := hereAt ss rs t) (S := S) (n := b.n) (fun i hi => (h.sN i hi).1) b.n (Nat.le_refl _))
 have hmul := Nat.mul_le_mul n6 n6
 clear h i1 i2 sb rb
 go_enter Tryz.func25, Tryz.ntmps25
 go_wp2_with fail
 refine CE.out.mono ?_
 rintro e w1 ⟨A, n, c, rfl, hI, hb1⟩
 have HB1 := Lib.hid hb1
 have HZ1 := hb1.size
 have HI := Lib.hid hI
 have y4 : w1.cell? ⟨b.M, 4, none⟩ = some (.slice (some ⟨b.Q, 0, none⟩) b.n b.d) := (hb1.cell (p := ⟨b.M, 4, none⟩) kM).trans z4
 clear hI hb1 CE
 by_cases hc : netC (hereAt ss rs t) S b.n = 0
 ·have he := HE0.out hc
  have HC := Lib.hid hc
  have hI := HI.out
  unfold netE at hI
  rw [if_pos hc] at hI
  have hn := hI.1
  have CB := Lib.hid (r2_Bounds b.n A n c (netL (hereAt ss rs t) S b.n) w1 hI n1 n6 (by have := HLen.out; omega) (by have := (edgesC_0 he).2.2.2; simpa using this))
  rw [hc]
  clear hc he hI HI HE0 HLen hmul hn
  go_wp2_with fail
  refine CB.out.mono ?_
  rintro e w2 (⟨hs, rfl, hb2⟩ | ⟨hs, D, H, hD, hb2, ⟨hF, rfl⟩ | ⟨hF, P, Q, m, q, rfl, hM, hH⟩⟩)
  ·have HO := Lib.hid (show WideR b.n (hereAt ss rs t) S 0 7 from .inr ⟨HC.out, .inl ⟨hs, rfl, rfl⟩⟩)
   have HB2 := Lib.hid (HB1.out.trans (hb2.mono HZ1))
   clear hs hb2 CB
   go_wp2_with fail
   refine bodyPost_ret (v := .tuple #[.int .i64 0, .int .i64 7]) (by simp [results, Tryz.results25, go_sem]) rfl ?_
   exact ⟨0, 7, rfl, HO.out, HB2.out⟩
  ·have HO := Lib.hid (show WideR b.n (hereAt ss rs t) S 0 1 from .inr ⟨HC.out, .inr ⟨hs, D, H, hD, .inl ⟨hF, rfl, rfl⟩⟩⟩)
   have HB2 := Lib.hid (HB1.out.trans (hb2.mono HZ1))
   clear hs hb2 CB hD hF
   go_wp2_with fail
   refine bodyPost_ret (v := .tuple #[.int .i64 0, .int .i64 1]) (by simp [results, Tryz.results25, go_sem]) rfl ?_
   exact ⟨0, 1, rfl, HO.out, HB2.out⟩
  ·have HS := Lib.hid (show WideR b.n (hereAt ss rs t) S (wideAll (wideG D H) b.n b.n) 0 from .inr ⟨HC.out, .inr ⟨hs, D, H, hD, .inr ⟨hF, rfl, rfl⟩⟩⟩)
   have HB2 := Lib.hid (HB1.out.trans (hb2.mono HZ1))
   have hz2 := HB2.out.size
   have HF := Lib.hid (wideG_bd hD hF)
   have HTm := Lib.hid (show ∀ i k, i < b.n → k < b.n → H i k = true → (-1000000000000 ≤ D i k ∧ D i k ≤ 1000000000000) ∧ -1000000000000 ≤ D k i ∧ D k i ≤ 1000000000000 from fun i k hi hk g => by
    rcases hF with ⟨_, hF⟩ | ⟨hF, _⟩
    ·have q1 := hF i k hi hk g
     have q2 := hF k i hk hi (tells_rev hD hi hk g)
     rw [timeB_iff] at q1 q2
     omega
    ·exact absurd hF (by decide))
   obtain ⟨-, m1, m2, b1, rfl, hl1, hM⟩ := hM
   obtain ⟨-, q1, q2, b2, rfl, hl2, hH⟩ := hH
   unfold maxLen at m2 q2
   have HM := Lib.hid hM
   have HH := Lib.hid hH
   clear hs hb2 CB hD hF hM hH
   go_wp2_with fail
   go_loopw [8, 9] (fun sv iv wx => ∃ i : Nat, iv = .int .i64 i ∧ i ≤ b.n ∧ sv = .int .i64 (wideAll (wideG D H) b.n i) ∧ Below w2.heap.size w2 wx) (fun _ iv _ => b.n - (intOf iv).toNat)
   case atStart => exact ⟨0, rfl, by omega, rfl, Below.refl _ _⟩
   case round =>
    obtain ⟨i, rfl, hi, rfl, hB⟩ := hrel
    have HB := Lib.hid hB
    have hzi := hB.size
    clear hB
    by_cases g1 : i < b.n
    ·have g2 : (i : Int) < (b.n : Int) := by omega
     have g3 : (0 : Int) ≤ (i : Int) := by omega
     have HQ := Lib.hid (show wideAll (wideG D H) b.n (i + 1) = wideAll (wideG D H) b.n i + wideRow (wideG D H) i (b.n - (i + 1)) from rfl)
     have hwb := Lib.hid (wideAll_bd n6 HF.out i hi)
     obtain ⟨X, eX⟩ : ∃ X, wideAll (wideG D H) b.n i = X := ⟨_, rfl⟩
     rw [eX] at HQ hwb ⊢
     clear eX
     obtain ⟨r1, d1, s1, s2, s3, s4, s5⟩ := HM.out i g1
     obtain ⟨r2, e2, t1, t2, t3, t4, t5⟩ := HH.out i g1
     unfold maxLen at s3 t3
     have S5 := Lib.hid s5
     have T5 := Lib.hid t5
     have S1 := Lib.hid s1
     have T1 := Lib.hid t1
     clear s5 t5 s1 t1
     go_wp2_with fail
     go_loopw [8, 10] (fun sv kv wx => ∃ k : Nat, kv = .int .i64 k ∧ i + 1 ≤ k ∧ k ≤ b.n ∧ sv = .int .i64 (X + wideRow (wideG D H) i (k - (i + 1))) ∧ Below w2.heap.size w2 wx) (fun _ kv _ => b.n - (intOf kv).toNat)
     case atStart => exact ⟨i + 1, by go_num, by omega, by omega, by simp [wideRow], HB.out⟩
     case round =>
      obtain ⟨k, rfl, hk1, hk2, rfl, hBk⟩ := hrel
      have HBk := Lib.hid hBk
      have hzk := hBk.size
      clear hBk HB hzi
      by_cases m1 : k < b.n
      ·have m2 : (k : Int) < (b.n : Int) := by omega
       have m3 : (0 : Int) ≤ (k : Int) := by omega
       have x0 := (HBk.out.cell (p := ⟨b1, i, none⟩) hl1).trans S1.out
       have x1 := (HBk.out.cell (p := ⟨b2, i, none⟩) hl2).trans T1.out
       have x2 := (HBk.out.cell (p := ⟨r2, k * 1 + 0, none⟩) t4).trans (T5.out k m1 0 _ rfl)
       simp only [Nat.mul_one, Nat.add_zero] at x2
       have hrow := Lib.hid (show wideRow (wideG D H) i (k + 1 - (i + 1)) = wideRow (wideG D H) i (k - (i + 1)) + wideG D H i k by
        rw [show k + 1 - (i + 1) = (k - (i + 1)) + 1 by omega]
        show _ + wideG D H i (i + 1 + (k - (i + 1))) = _
        rw [show i + 1 + (k - (i + 1)) = k by omega])
       have hrb := wideRow_bd g1 HF.out (k - (i + 1)) (by omega)
       obtain ⟨Y, eY⟩ : ∃ Y, wideRow (wideG D H) i (k - (i + 1)) = Y := ⟨_, rfl⟩
       rw [eY] at hrow hrb ⊢
       have kb1 : b1 < wr.heap.size := by omega
       have kb2 : b2 < wr.heap.size := by omega
       have kr1 : r1 < wr.heap.size := by omega
       have kr2 : r2 < wr.heap.size := by omega
       clear eY
       cases hd : H i k
       ·have hval : wideG D H i k = 0 := by unfold wideG; rw [if_neg (by rw [hd]; simp)]
        rw [hd] at x2
        rw [hval, Int.add_zero] at hrow
        clear hval hd hrb
        as_aux_lemma =>
         go_upto_if 53 with (fail)
         go_wp2_with fail
         go_roundw
         case rel => exact ⟨k + 1, by go_num, by omega, by omega, by rw [hrow.out], HBk.out⟩
         case measure => go_light; simp [intOf]; omega
       ·have hval : wideG D H i k = D i k + D k i := by unfold wideG; rw [if_pos hd]
        have x3 := (HBk.out.cell (p := ⟨r1, k * 2 + 0, none⟩) s4).trans (S5.out k m1 0 _ rfl)
        have x4 := (HBk.out.cell (p := ⟨r1, k * 2 + 1, none⟩) s4).trans (S5.out k m1 1 _ rfl)
        have hbs : bndS D H i k = ⟨-(D k i), D i k⟩ := by unfold bndS; rw [if_pos hd]
        rw [hbs] at x3 x4
        simp only [Nat.add_zero] at x3
        rw [hd] at x2
        have tb := HTm.out i k g1 m1 hd
        rw [hval] at hrow
        obtain ⟨u, eu⟩ : ∃ u, D i k = u := ⟨_, rfl⟩
        obtain ⟨v, ev⟩ : ∃ v, -(D k i) = v := ⟨_, rfl⟩
        have ev2 : D k i = -v := by omega
        rw [eu, ev2] at hrow tb
        rw [eu] at x4
        rw [ev] at x3
        have hwx := hwb.out
        have hki : ((k : Nat) : Int) ≤ 6 := by omega
        have hm6 : ((k - (i + 1) : Nat) : Int) * 2000000000000 ≤ 12000000000000 := by omega
        have hi6 : (i : Int) * 12000000000000 ≤ 72000000000000 := by omega
        have hw1 := Lib.hid (IntWalk.i64_in (X + Y + u) (by omega))
        have hw2 := Lib.hid (IntWalk.i64_in (X + Y + u - v) (by omega))
        have HRW := Lib.hid (show X + Y + u - v = X + wideRow (wideG D H) i (k + 1 - (i + 1)) by rw [hrow.out]; omega)
        clear hval hd tb eu ev ev2 hrow hrb hwx hm6 hi6 hki hbs
        as_aux_lemma =>
         go_upto_if 53 with (fail)
         go_wp2_with fail
         have hw1' := hw1.out
         have hw2' := hw2.out
         go_quiet (fail)
         clear hw1' hw2'
         go_wp2_with fail
         go_roundw
         case rel => exact ⟨k + 1, by go_num, by omega, by omega, by rw [← HRW.out], ⟨HBk.out.os, HBk.out.tape, HBk.out.output, HBk.out.size, HBk.out.block⟩⟩
         case measure => go_light; simp [intOf]; omega
      ·obtain rfl : k = b.n := by omega
       go_wp2_with fail
       go_roundw
       case rel => exact ⟨i + 1, by go_num, by omega, by rw [HQ.out], HBk.out⟩
       case measure => go_light; simp [intOf]; omega
    ·obtain rfl : i = b.n := by omega
     go_wp2_with fail
     refine bodyPost_ret (v := .tuple #[.int .i64 (wideAll (wideG D H) b.n b.n), .int .i64 0]) (by simp [results, Tryz.results25, go_sem]) rfl ?_
     exact ⟨_, 0, rfl, HS.out, HB2.out.trans (HB.out.mono hz2)⟩
 ·have HO := Lib.hid (show WideR b.n (hereAt ss rs t) S 0 (netC (hereAt ss rs t) S b.n) from .inl ⟨hc, rfl, rfl⟩)
  obtain ⟨cc, hcc⟩ : ∃ cc, netC (hereAt ss rs t) S b.n = cc := ⟨_, rfl⟩
  rw [hcc] at hc HO ⊢
  have hq : (cc == 0) = false := by simpa using hc
  clear hcc HI HE0
  go_wp2_with fail
  refine bodyPost_ret (v := .tuple #[.int .i64 0, .int .i64 cc]) (by simp [results, Tryz.results25, go_sem]) rfl ?_
  exact ⟨0, cc, rfl, HO.out, HB1.out⟩
end
end Go.Proofs.YtldlandcjegikaaGreatDoor
