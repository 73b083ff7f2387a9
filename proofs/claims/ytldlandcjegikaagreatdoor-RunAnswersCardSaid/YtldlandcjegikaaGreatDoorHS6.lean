/- Texts that serve many laws, one behind the other. -/
import Derived.Deep.CutBlock
import Derived.Deep.DeepCutAuto
import Derived.Deep.Light
import Derived.Test.YtldlandcjegikaaGreatDoorHK4
import Derived.Test.YtldlandcjegikaaGreatDoorHS4
import Derived.Test.YtldlandcjegikaaGreatDoorHS5
set_option linter.unusedVariables false
set_option linter.unusedSimpArgs false
namespace Go.Proofs.YtldlandcjegikaaGreatDoor

section
open Go.RowKit
structure SAd where
 M : Nat
 B : Nat
 Q : Nat
 n : Nat
 d : Nat
 gi : Nat → Nat
def SAd.qv (b : SAd) : Value := .slice (some ⟨b.Q, 0, none⟩) b.n b.d
structure SNetAt (W0 w : World) (b : SAd) (A1 A2 : Option Addr) (c1 c2 : Nat) (p t : Int) (uv : Value) (us : List RLetter) (S : Nat → NSt) : Prop where
 W : RWorld b.qv W0 w b.M b.B b.n A1 A2 c1 c2 t uv us
 row : ∀ i, i < b.n → w.cell? ⟨b.Q, i, none⟩ = some (.pointer (some ⟨b.gi i, 0, none⟩))
 Qo : W0.heap.size ≤ b.Q ∧ b.Q < b.B ∧ b.Q ≠ b.M
 nd : b.n ≤ b.d ∧ b.d ≤ maxLen
 g : ∀ i, i < b.n → W0.heap.size ≤ b.gi i ∧ b.gi i < b.B ∧ b.gi i ≠ b.M ∧ b.gi i ≠ b.Q
 gd : ∀ i j, i < b.n → j < b.n → i ≠ j → b.gi i ≠ b.gi j
 at_ : ∀ i, i < b.n → RNodeAt w (b.gi i) (S i)
 sN : ∀ i, i < b.n → (S i).N = b.n ∧ (S i).id = i ∧ (S i).p = p
 has : ∀ L ∈ us, LHas b.n L
def SMine (b : SAd) (uv : Value) (k : Nat) : Prop := k = b.M ∨ uv.ownBlock = some k ∨ ∃ i, i < b.n ∧ k = b.gi i
variable {W0 w w' : World} {b : SAd} {A1 A2 : Option Addr} {c1 c2 : Nat} {p t t' : Int} {uv uv' : Value} {us us' : List RLetter} {S : Nat → NSt}
theorem SNetAt.below (h : SNetAt W0 w b A1 A2 c1 c2 p t uv us S) (hb : Below w.heap.size w w') : SNetAt W0 w' b A1 A2 c1 c2 p t uv us S :=
 ⟨h.W.below hb, fun i hi => (hb.cell (p := ⟨b.Q, i, none⟩) (Nat.lt_of_lt_of_le h.Qo.2.1 h.W.Bw)).trans (h.row i hi), h.Qo, h.nd, h.g, h.gd, fun i hi => (h.at_ i hi).below hb, h.sN, h.has⟩
theorem SNetAt.world (h : SNetAt W0 w b A1 A2 c1 c2 p t uv us S) (hW : RWorld b.qv W0 w' b.M b.B b.n A1 A2 c1 c2 t' uv' us') (hK : Kept (Mine b.M uv) w w') (hu : ∀ L ∈ us', LHas b.n L) : SNetAt W0 w' b A1 A2 c1 c2 p t' uv' us' S := by
 have hlow := h.W.low
 have hn : ∀ k, k < b.B → k ≠ b.M → ¬ Mine b.M uv k := fun k hk hm e => by
  rcases e with e | e
  ·exact hm e
  ·have := (hlow k e).1; omega
 exact ⟨hW, fun i hi => (World.cell?_of_block (hK.block b.Q (Nat.lt_of_lt_of_le h.Qo.2.1 h.W.Bw) (hn _ h.Qo.2.1 h.Qo.2.2))).trans (h.row i hi), h.Qo, h.nd, h.g, h.gd, fun i hi => (h.at_ i hi).other hK (hn _ (h.g i hi).2.1 (h.g i hi).2.2.1), h.sN, hu⟩
theorem SNetAt.hear {d : Nat} {s' : NSt} (h : SNetAt W0 w b A1 A2 c1 c2 p t uv us S) (hd : d < b.n) (hN : RNodeAt w' (b.gi d) s') (hK : Kept (fun k => k = b.gi d) w w') (hs : s'.N = b.n ∧ s'.id = d ∧ s'.p = p) : SNetAt W0 w' b A1 A2 c1 c2 p t uv us (updS S d s') := by
 obtain ⟨g1, g2, g3, g4⟩ := h.g d hd
 have hlow := h.W.low
 refine ⟨h.W.other hK (fun k e => ?_), fun i hi => (World.cell?_of_block (hK.block b.Q (Nat.lt_of_lt_of_le h.Qo.2.1 h.W.Bw) (fun e => g4 e.symm))).trans (h.row i hi), h.Qo, h.nd, h.g, h.gd, fun i hi => ?_, fun i hi => ?_, h.has⟩
 ·subst e
  exact ⟨g1, g3, fun e => by have := (hlow _ e).1; omega⟩
 ·unfold updS
  by_cases c : i = d
  ·subst c; rw [if_pos rfl]; exact hN
  ·rw [if_neg c]; exact (h.at_ i hi).other hK (h.gd i d hi hd c)
 ·unfold updS
  by_cases c : i = d
  ·subst c; rw [if_pos rfl]; exact hs
  ·rw [if_neg c]; exact h.sN i hi
end


section
open Go.RowKit
theorem infoRN : (Tryz.prog.info? 64).map (fun i => (i.zero, i.size, i.bytes)) = some (some (.pointer none), 1, 8) := by kernel_rfl
structure SMaking (w : World) (M n i : Nat) (A1 A2 : Option Addr) (c1 c2 : Nat) (p : Int) (v : Value) (gi : Nat → Nat) : Prop where
 net : Blk w M 63 #[.slice A1 n c1, .slice A2 n c2, .int .i64 0, .slice none 0 0, v]
 row : w.ownsRow (M + 1) 64 1 v i ((List.range i).map fun j => .pointer (some ⟨gi j, 0, none⟩))
 nd : ∀ j, j < i → RNodeAt w (gi j) (NSt.start n j p) ∧ M < gi j
 du : ∀ u, v.ownBlock = some u → ∀ j, j < i → u ≠ gi j
 dd : ∀ j k, j < i → k < i → j ≠ k → gi j ≠ gi k
theorem SMaking.step {w w2 w5 : World} {M n i gg cap ng : Nat} {A1 A2 : Option Addr} {c1 c2 : Nat} {p : Int} {v : Value} {gi : Nat → Nat} (h : SMaking w M n i A1 A2 c1 c2 p v gi) (hb : Below w.heap.size w w2) (hn : RNodeAt w2 ng (NSt.start n i p)) (h1 : w.heap.size ≤ ng)
  (hg5 : (w2.alloc (.cells #[.pointer (some ⟨ng, 0, none⟩)] 64)).grownBy w5 v.ownBlock) (hgg : v.ownBlock = some gg ∨ gg = (w2.alloc (.cells #[.pointer (some ⟨ng, 0, none⟩)] 64)).heap.size)
  (ho5 : w5.ownsRow (M + 1) 64 1 (.slice (some ⟨gg, 0, none⟩) (i + 1) cap) (i + 1) (((List.range i).map fun j => .pointer (some ⟨gi j, 0, none⟩)) ++ [.pointer (some ⟨ng, 0, none⟩)])) :
  SMaking (w5.setCell ⟨M, 4, none⟩ (.slice (some ⟨gg, 0, none⟩) (i + 1) cap)) M n (i + 1) A1 A2 c1 c2 p (.slice (some ⟨gg, 0, none⟩) (i + 1) cap) (fun j => if j = i then ng else gi j) := by
 have hNl := h.net.lt
 have hs2 := hb.size
 have hlt : ∀ u, v.ownBlock = some u → M + 1 ≤ u ∧ u < w.heap.size := h.row.lt
 have hNu : some M ≠ v.ownBlock := fun e => by have := (hlt M e.symm).1; omega
 have hgs : gg = w2.heap.size + 1 ∨ v.ownBlock = some gg := by
  rcases hgg with e | e
  ·exact .inr e
  ·left; simpa using e
 have hngl := hn.blk.lt
 have keep : ∀ k, k < w2.heap.size → some k ≠ v.ownBlock → w5.heap[k]? = w2.heap[k]? := fun k hk hne => (hg5.block k (by simp; omega) hne).trans (Below.heap_alloc w2 _ k hk)
 have hng : some ng ≠ v.ownBlock := fun e => by have := (hlt ng e.symm).2; omega
 refine ⟨?_, ?_, fun j hj => ?_, fun u e j hj => ?_, fun j k hj hk hne => ?_⟩
 ·have hN5 : Blk w5 M 63 #[.slice A1 n c1, .slice A2 n c2, .int .i64 0, .slice none 0 0, v] := (keep M (by omega) hNu).trans (h.net.below hb hNl)
  exact (hN5.set 4 _).conv rfl
 ·have e : ((List.range (i + 1)).map fun j => Value.pointer (some ⟨if j = i then ng else gi j, 0, none⟩)) = ((List.range i).map fun j => .pointer (some ⟨gi j, 0, none⟩)) ++ [.pointer (some ⟨ng, 0, none⟩)] := by
   rw [List.range_succ, List.map_append]
   congr 1
   ·exact map_congr_range fun j hj => by rw [if_neg (by omega)]
   ·simp
  rw [e]
  exact own_touched ho5 ((Touched.refl M w5).set 4 _) (by omega)
 ·by_cases c : j = i
  ·subst c
   simp only [if_pos]
   exact ⟨⟨Blk.far (g := ng) ((keep ng hngl hng).trans hn.blk) (p := ⟨M, 4, none⟩) (by show ng ≠ M; omega) _, hn.ok⟩, by omega⟩
  ·simp only [if_neg c]
   obtain ⟨hj1, hj2⟩ := h.nd j (by omega)
   have hg := hj1.blk.lt
   have d := fun (u : Nat) (e : v.ownBlock = some u) => h.du u e j (by omega)
   have hj4 := hj1.below hb
   exact ⟨⟨Blk.far (g := gi j) ((keep _ (by omega) (fun e => d _ e.symm rfl)).trans hj4.blk) (p := ⟨M, 4, none⟩) (by show gi j ≠ M; omega) _, hj1.ok⟩, hj2⟩
 ·have eu : gg = u := by simpa [Value.ownBlock] using e
  subst eu
  by_cases c : j = i
  ·simp only [if_pos c]
   rcases hgs with e2 | e2
   ·omega
   ·have := (hlt _ e2).2; omega
  ·simp only [if_neg c]
   have hg := (h.nd j (by omega)).1.blk.lt
   rcases hgs with e2 | e2
   ·omega
   ·exact h.du _ e2 j (by omega)
 ·by_cases c : j = i
  ·by_cases c' : k = i
   ·omega
   ·simp only [if_pos c, if_neg c']
    have := (h.nd k (by omega)).1.blk.lt; omega
  ·by_cases c' : k = i
   ·simp only [if_neg c, if_pos c']
    have := (h.nd j (by omega)).1.blk.lt; omega
   ·simp only [if_neg c, if_neg c']
    exact h.dd j k (by omega) (by omega) hne
set_option maxRecDepth 100000 in
set_option maxHeartbeats 8000000 in
theorem snet_New (A : Option Addr) (n c : Nat) (zs : List Int) (A2 : Option Addr) (n2 c2 : Nat) (ys : List Int) (p : Int) (w : World) (h : IsInts w A n c zs) (h2 : IsInts w A2 n2 c2 ys) (hc : newC zs ys p = 0) :
  Calls Tryz.prog 8 #[.slice A n c, .slice A2 n2 c2, .int .i64 p] w fun e w' => ∃ b : SAd, e = .returned (.pointer (some ⟨b.M, 0, none⟩)) ∧ b.n = n ∧ SNetAt w w' b A A2 c c2 p 0 (.slice none 0 0) [] (fun i => NSt.start n i p) ∧ Below w.heap.size w w' := by
 obtain ⟨i0, hi, hz0, hz1, hz2⟩ := info_parts infoRN
 obtain ⟨r1, r2, r3, r4, r5⟩ := newC_0 hc
 obtain ⟨p0, p1⟩ := rateB_iff.1 r1
 have hn1 : 1 ≤ n := by rw [← h.1]; exact r2
 have hn6 : n ≤ 6 := by rw [← h.1]; exact r3
 obtain rfl : n2 = n := by rw [← h.1, ← h2.1]; exact r4
 clear h h2 hc r1 r2 r3 r4 r5
 go_enter Tryz.func8, Tryz.ntmps8
 go_wp2_with fail
 obtain ⟨w2, hw2⟩ : ∃ W, (w.alloc (.cells #[.slice A n2 c, .slice A2 n2 c2, .int .i64 0, .slice none 0 0, .slice none 0 0] 63)) = W := ⟨_, rfl⟩
 have hM : SMaking w2 w.heap.size n2 0 A A2 c c2 p (.slice none 0 0) (fun _ => 0) := ⟨by rw [← hw2]; exact Blk.new w _ _, own_nil _ _ _ _, fun j hj => absurd hj (by omega), fun u e j hj => absurd hj (by omega), fun j k hj => absurd hj (by omega)⟩
 have hB2 : Below w.heap.size w w2 := by rw [← hw2]; exact (Below.refl _ _).alloc (Nat.le_refl _) _
 have HM := Lib.hid hM
 have HB2 := Lib.hid hB2
 rw [hw2]
 clear hM hB2 hw2
 go_loopw [8] (fun iv wr => ∃ (i : Nat) (v : Value) (gi : Nat → Nat), iv = .int .i64 i ∧ i ≤ n2 ∧ SMaking wr w.heap.size n2 i A A2 c c2 p v gi ∧ Below w.heap.size w wr) (fun iv _ => n2 - (intOf iv).toNat)
 case atStart => exact ⟨0, _, _, rfl, by omega, HM.out, HB2.out⟩
 case round =>
  obtain ⟨i, v, gi, rfl, hi', hM, hB⟩ := hrel
  have HMi := Lib.hid hM
  have HBi := Lib.hid hB
  have hzr := hB.size
  have hNl := hM.net.lt
  by_cases d1 : i < n2
  ·have g1 : (i : Int) < (n2 : Int) := by omega
   obtain ⟨AO, cO, rfl, hAc, hcm⟩ := own_slice hM.row
   unfold maxLen at hcm
   have y1 : wr.cell? ⟨w.heap.size, 4, none⟩ = some (.slice AO i cO) := HMi.out.net.cell 4
   have yf : wr.frozen? ⟨w.heap.size, 4, none⟩ = false := HMi.out.net.fz 4
   have HLow := Lib.hid (fun u (e : (Value.slice AO i cO).ownBlock = some u) => (HMi.out.row.lt u e).1)
   obtain ⟨w3, hw3⟩ : ∃ W, wr.alloc (.cells #[.int .i64 i, .int .i64 n2, .int .i64 p, .int .i64 (-1), .bool false, .bool false, .bool false, .bool false, .bool false, .bool false, .int .i64 0, .int .i64 0, .int .i64 0, .int .i64 0, .int .i64 0, .int .i64 0, .int .i64 0, .int .i64 0, .int .i64 0, .int .i64 0, .int .i64 0, .int .i64 0, .int .i64 0, .int .i64 0, .int .i64 0, .int .i64 0, .int .i64 0, .int .i64 0] 69) = W := ⟨_, rfl⟩
   have hb3 : Below wr.heap.size wr w3 := by rw [← hw3]; exact (Below.refl _ _).alloc (Nat.le_refl _) _
   have hn3 : RNodeAt w3 wr.heap.size (NSt.start n2 i p) := ⟨by rw [← hw3]; exact (Blk.new wr _ _).conv rfl, NSt.start_ok hn1 hn6 d1 p0 p1⟩
   have hs3 : wr.heap.size < w3.heap.size := by rw [← hw3]; simp
   have hM3 : w.heap.size < w3.heap.size := by omega
   have z1 := (hb3.cell (p := ⟨w.heap.size, 4, none⟩) hNl).trans y1
   have zf : w3.frozen? ⟨w.heap.size, 4, none⟩ = false := (HMi.out.net.below hb3 hNl).fz 4
   have HO := Lib.hid (own_below HMi.out.row hb3)
   have HB3 := Lib.hid hb3
   have HN3 := Lib.hid hn3
   clear hM hB hb3 hn3
   go_wp2_with (at_builtin; refine wpList_append_lies _ rfl _ _ 61 rfl (w.heap.size + 1) 64 i0 (.pointer none) 1 8 Tryz.underlying61 hi hz0 hz1 hz2 rfl (by decide) (.slice AO i cO) i ((List.range i).map fun j => .pointer (some ⟨gi j, 0, none⟩)) rfl ((HO.out).alloc _) ⟨w3.heap.size, 0, none⟩ 1 1 [.pointer (some ⟨wr.heap.size, 0, none⟩)] rfl rfl (by exact cell_newAt w3 [.pointer (some ⟨wr.heap.size, 0, none⟩)] _ _ rfl) (by intro u hu; rw [List.mem_singleton] at hu; subst hu; rfl) (by decide) (by unfold maxLen; omega) (by omega) (by simp; omega) _ rfl ?_; intro gg cap w5 ho5 hg5 hgg hlt5; have hNne : some w.heap.size ≠ (Value.slice AO i cO).ownBlock := (fun e => by have := HLow.out _ e.symm; omega); have y5 : w5.cell? ⟨w.heap.size, 4, none⟩ = some (.slice AO i cO) := hg5.cell ((World.cell?_alloc_lt _ _ ⟨w.heap.size, 4, none⟩ hM3).trans z1) hNne; have yf5 : w5.frozen? ⟨w.heap.size, 4, none⟩ = false := (World.frozen?_of_block (hg5.block w.heap.size (by simp; omega) hNne)).trans ((World.frozen?_of_block (Below.heap_alloc w3 _ w.heap.size hM3)).trans zf))
   have HMs := Lib.hid (HMi.out.step HB3.out HN3.out (Nat.le_refl _) hg5 hgg ho5)
   have HB6 := Lib.hid (show Below w.heap.size w (w5.setCell ⟨w.heap.size, 4, none⟩ (.slice (some ⟨gg, 0, none⟩) (i + 1) cap)) from
    (((HBi.out.trans (HB3.out.mono hzr)).alloc (by omega) _).grown hg5 (by simp; omega) (fun k hk => by have := HLow.out k hk; omega)).setCell (by show w.heap.size ≤ w.heap.size; omega) _)
   clear ho5 hg5 hgg y5 yf5 y1 yf z1 zf HO hw3
   go_roundw
   case rel => exact ⟨i + 1, _, _, by go_num, by omega, HMs.out, HB6.out⟩
   case measure => go_light; simp [intOf]; omega
  ·obtain rfl : i = n2 := by omega
   have hlow := hM.row.lt
   have hcl := fun {q : Nat} (hq : v.ownBlock = some q) => hM.row.cells hq
   rcases hM.row.2 with ⟨rfl, hn⟩ | ⟨q, cap, cur, rfl, hBq, hg, hnc, hcm, hs, ht⟩
   ·omega
   ·have hq := hlow q rfl
    have HCl := Lib.hid (fun j (hj : j < i) => show wr.cell? ⟨q, j, none⟩ = some (.pointer (some ⟨gi j, 0, none⟩)) by
     have hx := hcl (q := q) rfl j (.pointer (some ⟨gi j, 0, none⟩)) (by rw [List.getElem?_map, List.getElem?_range hj]; rfl)
     rw [show (⟨q, 0, none⟩ : Addr).add j = ⟨q, j, none⟩ by unfold Addr.add; split <;> simp_all] at hx
     exact hx)
    clear hM hB hcl hlow hBq hg hs ht
    go_wp2_with fail
    go_ret
    refine ⟨⟨w.heap.size, wr.heap.size, q, i, cap, gi⟩, rfl, rfl, ⟨⟨HMi.out.net, HBi.out, Nat.le_refl _, hNl, Nat.le_refl _, own_nil _ _ _ _, by simp, by simp, by omega, by omega⟩, fun j hj => HCl.out j hj, ⟨by show w.heap.size ≤ q; omega, hq.2, by show q ≠ w.heap.size; omega⟩, ⟨hnc, hcm⟩, fun j hj => ?_, fun j k hj hk hne => HMi.out.dd j k hj hk hne, fun j hj => (HMi.out.nd j hj).1, fun j hj => ⟨rfl, rfl, rfl⟩, by simp⟩, HBi.out⟩
    have h1 := HMi.out.nd j hj
    have h2 := h1.1.blk.lt
    have h3 := HMi.out.du q rfl j hj
    exact ⟨by show w.heap.size ≤ gi j; omega, h2, by show gi j ≠ w.heap.size; omega, fun e => h3 e.symm⟩
end


section
open Go.RowKit
variable {W0 w w' : World} {b : SAd} {A1 A2 : Option Addr} {c1 c2 : Nat} {p t t' : Int} {uv uv' : Value} {us us' : List RLetter} {S : Nat → NSt}
def SNetDone (W0 w : World) (b : SAd) (A1 A2 : Option Addr) (c1 c2 : Nat) (p : Int) (uv : Value) (c t' : Int) (us' : List RLetter) (S' : Nat → NSt) (e : Ending) (w' : World) : Prop :=
 e = .returned (.int .i64 c) ∧ ∃ uv', SNetAt W0 w' b A1 A2 c1 c2 p t' uv' us' S' ∧ Kept (SMine b uv) w w' ∧ (∀ q, uv'.ownBlock = some q → uv.ownBlock = some q ∨ w.heap.size ≤ q)
theorem smine_kept {k : Nat} (h : Mine b.M uv k) : SMine b uv k := by
 rcases h with e | e
 ·exact .inl e
 ·exact .inr (.inl e)
def gotL : Option RLetter → RLetter
 | none => ⟨0, 0, false, 0, 0, 0⟩
 | some L => L
theorem gotV_L (got : Option RLetter) : GotV got = .agg #[.int .i64 (gotL got).src, .int .i64 (gotL got).dst, .bool (gotL got).answer, .int .i64 (gotL got).t1, .int .i64 (gotL got).t2, .int .i64 (gotL got).t] := by cases got <;> rfl
set_option maxRecDepth 100000 in
set_option maxHeartbeats 16000000 in
theorem snet_Do_quiet (ss rs : List Int) (A : RAct) (c : Int) (got : Option RLetter) (h : SNetAt W0 w b A1 A2 c1 c2 p t uv us S) (i1 : IsInts W0 A1 b.n c1 ss) (i2 : IsInts W0 A2 b.n c2 rs) (hA : A.ok) (n6 : b.n ≤ 6) (sb : ∀ (i : Nat) z, ss[i]? = some z → 0 ≤ z ∧ z ≤ 1000000) (rb : ∀ (i : Nat) z, rs[i]? = some z → -1000 ≤ z ∧ z ≤ 1000) (hw : WAct b.n ss rs t us A c got t' us') (hq : got = none) :
  Calls Tryz.prog 20 #[.pointer (some ⟨b.M, 0, none⟩), .agg #[.int .i64 A.what, .int .i64 A.a, .int .i64 A.b]] w (SNetDone W0 w b A1 A2 c1 c2 p uv c t' us' S) := by
 have HU := Lib.hid h
 have kM := h.W.blk.lt
 have hW0 : W0.heap.size ≤ w.heap.size := h.W.old.size
 have hown : ∀ u, uv.ownBlock = some u → u < w.heap.size := fun u e => (h.W.low u e).2
 have HOwn := Lib.hid hown
 have HH := Lib.hid (hw.has i1.1 h.has).1
 have HD := Lib.hid (fun W (hb : Below w.heap.size w W) => act_R hw hA n6 sb rb W0 b.M b.B A1 A2 c1 c2 uv W (h.W.below hb) i1 i2)
 rw [gotV_L] at HD
 obtain ⟨G, eG⟩ : ∃ G, gotL got = G := ⟨_, rfl⟩
 obtain ⟨gb, egb⟩ : ∃ q, got.isSome = q := ⟨_, rfl⟩
 rw [eG, egb] at HD
 have HKc := Lib.hid (fun (W W2 : World) (hl : w.heap.size < W.heap.size) (hK : Kept (Mine b.M uv) W W2) o => show W2.cell? ⟨w.heap.size, o, none⟩ = W.cell? ⟨w.heap.size, o, none⟩ from World.cell?_of_block (a := ⟨w.heap.size, o, none⟩) (hK.block w.heap.size hl (fun e => by
  rcases e with e | e
  ·omega
  ·have := HOwn.out _ e; omega)))
 have HKs := Lib.hid (fun (W : World) (g : Nat) (hg : w.heap.size ≠ g) (o : Nat) => show ((((((W.setCell ⟨g, 0, none⟩ (.int .i64 G.src)).setCell ⟨g, 1, none⟩ (.int .i64 G.dst)).setCell ⟨g, 2, none⟩ (.bool G.answer)).setCell ⟨g, 3, none⟩ (.int .i64 G.t1)).setCell ⟨g, 4, none⟩ (.int .i64 G.t2)).setCell ⟨g, 5, none⟩ (.int .i64 G.t)).cell? ⟨w.heap.size, o, none⟩ = W.cell? ⟨w.heap.size, o, none⟩ from by
  have hne : ∀ i, (⟨g, i, none⟩ : Addr) ≠ ⟨w.heap.size, o, none⟩ := fun i e => hg (by injection e with e1; exact e1.symm)
  rw [World.cell?_setCell_other _ _ _ _ (hne _), World.cell?_setCell_other _ _ _ _ (hne _), World.cell?_setCell_other _ _ _ _ (hne _), World.cell?_setCell_other _ _ _ _ (hne _), World.cell?_setCell_other _ _ _ _ (hne _), World.cell?_setCell_other _ _ _ _ (hne _)])
 clear h hw hown i1 i2
 go_enter Tryz.func20, Tryz.ntmps20
 go_upto_region 2 with fail
 go_cut [5, 6, 7] (fun pv iv ev wx => ∃ (g : Nat) (uv' : Value), pv = .pointer (some ⟨g, 0, none⟩) ∧ iv = .bool gb ∧ ev = .int .i64 c ∧ Blk wx g 110 #[.int .i64 G.src, .int .i64 G.dst, .bool G.answer, .int .i64 G.t1, .int .i64 G.t2, .int .i64 G.t] ∧ w.heap.size ≤ g ∧ uv'.ownBlock ≠ some g ∧ RWorld b.qv W0 wx b.M b.B b.n A1 A2 c1 c2 t' uv' us' ∧ Kept (Mine b.M uv) w wx ∧ (∀ q, uv'.ownBlock = some q → uv.ownBlock = some q ∨ w.heap.size ≤ q))
 case first =>
  go_wp2_with fail
  obtain ⟨W1, hW1⟩ : ∃ W, w.alloc (.cells #[.int .i64 A.what, .int .i64 A.a, .int .i64 A.b] 71) = W := ⟨_, rfl⟩
  have HB1 : Below w.heap.size w W1 := by rw [← hW1]; exact BeL
  have hsl : w.heap.size < W1.heap.size := by rw [← hW1]; simp
  have bx : Blk W1 w.heap.size 71 #[.int .i64 A.what, .int .i64 A.a, .int .i64 A.b] := by rw [← hW1]; exact Blk.new w _ _
  have x0 : W1.cell? ⟨w.heap.size, 0, none⟩ = some (.int .i64 A.what) := bx.cell 0
  have x1 : W1.cell? ⟨w.heap.size, 1, none⟩ = some (.int .i64 A.a) := bx.cell 1
  have x2 : W1.cell? ⟨w.heap.size, 2, none⟩ = some (.int .i64 A.b) := bx.cell 2
  rw [hW1]
  clear hW1 bx
  refine wp_region_held_drew (S := fun w9 => w9.cell? ⟨w.heap.size, 0, none⟩ = some (.int .i64 A.what) ∧ w9.cell? ⟨w.heap.size, 1, none⟩ = some (.int .i64 A.a) ∧ w9.cell? ⟨w.heap.size, 2, none⟩ = some (.int .i64 A.b)) kRf (⟨x0, x1, x2⟩) (fun hHeld => ?_)
  refine tkH 0 (.pointer (some ⟨b.M, 0, none⟩)) (some 10) rfl hHeld ?_
  try simp only [Act.put,sI_,sZ_,sS_]
  refine tkH 1 (.pointer (some ⟨b.M, 0, none⟩)) (some 11) rfl hHeld ?_
  try simp only [Act.put,sI_,sZ_,sS_]
  refine tkH 2 (.pointer (some ⟨b.M, 0, none⟩)) (some 12) rfl hHeld ?_
  try simp only [Act.put,sI_,sZ_,sS_]
  refine tkG 3 (.agg #[.int .i64 A.what, .int .i64 A.a, .int .i64 A.b]) (some 13) rfl (fun w9 hw9 => by (obtain ⟨a0, a1, a2⟩ := hw9; go_simp)) hHeld ?_
  try simp only [Act.put,sI_,sZ_,sS_]
  try simp only [Act.put,sI_,sZ_,sS_]
  refine wpAnyH_ready (rs := [4, 9]) kRf (by simp) ?_
  refine AllReadyH.cons rfl (fun K hK => ?_) (AllReadyH.cons rfl (fun K hK => ?_) AllReadyH.nil)
  ·go_simp
   refine (HD.out _ HB1.drew).mono ?_
   rintro e w2 ⟨rfl, uv', hR2, hK2, hq2⟩
   have z0 := (HKc.out W1.drew _ hsl hK2 0).trans x0
   have z1 := (HKc.out W1.drew _ hsl hK2 1).trans x1
   have z2 := (HKc.out W1.drew _ hsl hK2 2).trans x2
   refine hK.out _ _ ⟨z0, z1, z2⟩ (fun hHeld2 => ?_)
   clear hK K hHeld
   have hHeld := hHeld2
   clear hHeld2
   try simp only [Act.put,sI_,sZ_,sS_]
   refine tkH 5 (.tuple #[.agg #[.int .i64 G.src, .int .i64 G.dst, .bool G.answer, .int .i64 G.t1, .int .i64 G.t2, .int .i64 G.t], .bool gb, .int .i64 c]) (some 9) rfl hHeld ?_
   try simp only [Act.put,sI_,sZ_,sS_]
   refine tkH 6 (.agg #[.int .i64 G.src, .int .i64 G.dst, .bool G.answer, .int .i64 G.t1, .int .i64 G.t2, .int .i64 G.t]) (some 15) rfl hHeld ?_
   try simp only [Act.put,sI_,sZ_,sS_]
   refine tkH 7 (.bool gb) (some 16) rfl hHeld ?_
   try simp only [Act.put,sI_,sZ_,sS_]
   refine tkH 8 (.int .i64 c) (some 17) rfl hHeld ?_
   try simp only [Act.put,sI_,sZ_,sS_]
   have hs2 : W1.heap.size ≤ w2.heap.size := hK2.size
   have hl2 : w.heap.size < w2.heap.size := by omega
   try simp only [Act.put,sI_,sZ_,sS_]
   refine wpAnyH_ready (rs := [9]) kRf (by simp) ?_
   refine AllReadyH.cons rfl (fun K hK => ?_) AllReadyH.nil
   go_simp
   refine hK.out _ _ ⟨(World.cell?_alloc_lt _ _ ⟨w.heap.size, 0, none⟩ hl2).trans z0, (World.cell?_alloc_lt _ _ ⟨w.heap.size, 1, none⟩ hl2).trans z1, (World.cell?_alloc_lt _ _ ⟨w.heap.size, 2, none⟩ hl2).trans z2⟩ (fun hHeld2 => ?_)
   clear hK K hHeld
   have hHeld := hHeld2
   clear hHeld2
   try simp only [Act.put,sI_,sZ_,sS_]
   refine wpAnyH_ready (rs := [10]) kRf (by simp) ?_
   refine AllReadyH.cons rfl (fun K hK => ?_) AllReadyH.nil
   go_simp
   refine hK.out _ _ ⟨(World.cell?_alloc_lt _ _ ⟨w.heap.size, 0, none⟩ hl2).trans z0, (World.cell?_alloc_lt _ _ ⟨w.heap.size, 1, none⟩ hl2).trans z1, (World.cell?_alloc_lt _ _ ⟨w.heap.size, 2, none⟩ hl2).trans z2⟩ (fun hHeld2 => ?_)
   clear hK K hHeld
   have hHeld := hHeld2
   clear hHeld2
   try simp only [Act.put,sI_,sZ_,sS_]
   refine tkH 11 (.bool gb) (some 6) rfl hHeld ?_
   try simp only [Act.put,sI_,sZ_,sS_]
   refine tkH 12 (.int .i64 c) (some 7) rfl hHeld ?_
   try simp only [Act.put,sI_,sZ_,sS_]
   refine wpAnyH_done kRf ?_ _
   try simp only [Act.put,sI_,sZ_,sS_]
   have hKw : Kept (Mine b.M uv) w w2 := ((Kept.refl _ w).below HB1).trans (((Kept.refl (Mine b.M uv) W1).drew).trans hK2 (fun k e => .inl e)) (fun k e => .inl e)
   have hbl := (Below.refl w2.heap.size w2).alloc (Nat.le_refl _) (.cells #[.int .i64 G.src, .int .i64 G.dst, .bool G.answer, .int .i64 G.t1, .int .i64 G.t2, .int .i64 G.t] 110)
   have HR3 := Lib.hid (hR2.below hbl)
   have HK3 := Lib.hid (hKw.below hbl)
   have HQ3 := Lib.hid (show ∀ q, uv'.ownBlock = some q → uv.ownBlock = some q ∨ w.heap.size ≤ q from fun q e => (hq2 q e).imp id (fun h9 => by have : W1.heap.size ≤ q := h9; omega))
   have HU3 := Lib.hid (fun q e => (hR2.low q e).2)
   clear hK2 hKw hbl hR2 hq2 z0 z1 z2 hHeld
   go_wp2_with fail
   go_meet
   case rel => exact ⟨_, uv', rfl, rfl, rfl, Blk.new _ _ _, by omega, fun e => by have := HU3.out _ e; omega, HR3.out, HK3.out, HQ3.out⟩
  ·go_simp
   refine hK.out _ _ ⟨(World.cell?_alloc_lt _ _ ⟨w.heap.size, 0, none⟩ hsl).trans x0, (World.cell?_alloc_lt _ _ ⟨w.heap.size, 1, none⟩ hsl).trans x1, (World.cell?_alloc_lt _ _ ⟨w.heap.size, 2, none⟩ hsl).trans x2⟩ (fun hHeld2 => ?_)
   clear hK K hHeld
   have hHeld := hHeld2
   clear hHeld2
   try simp only [Act.put,sI_,sZ_,sS_]
   refine wpAnyH_ready (rs := [4]) kRf (by simp) ?_
   refine AllReadyH.cons rfl (fun K hK => ?_) AllReadyH.nil
   go_simp
   refine (HD.out _ (by exact BeL)).mono ?_
   rintro e w2 ⟨rfl, uv', hR2, hK2, hq2⟩
   have hs2 : W1.heap.size + 1 ≤ w2.heap.size := by have := hK2.size; simp at this; omega
   have z0 := (HKc.out _ _ (by simp; omega) hK2 0).trans ((World.cell?_alloc_lt W1 _ ⟨w.heap.size, 0, none⟩ hsl).trans x0)
   have z1 := (HKc.out _ _ (by simp; omega) hK2 1).trans ((World.cell?_alloc_lt W1 _ ⟨w.heap.size, 1, none⟩ hsl).trans x1)
   have z2 := (HKc.out _ _ (by simp; omega) hK2 2).trans ((World.cell?_alloc_lt W1 _ ⟨w.heap.size, 2, none⟩ hsl).trans x2)
   have bz : Blk w2 W1.heap.size 110 #[.int .i64 0, .int .i64 0, .bool false, .int .i64 0, .int .i64 0, .int .i64 0] := (hK2.block W1.heap.size (by simp) (fun e => by
    rcases e with e | e
    ·omega
    ·have := HOwn.out _ e; omega)).trans (Blk.new W1 _ _)
   have t0 := bz.cell 0
   have t1 := bz.cell 1
   have t2 := bz.cell 2
   have t3 := bz.cell 3
   have t4 := bz.cell 4
   have t5 := bz.cell 5
   simp at t0 t1 t2 t3 t4 t5
   have tf := fun o => bz.fz o
   have tl := bz.lt
   have HBZ := Lib.hid bz
   clear bz
   refine hK.out _ _ ⟨z0, z1, z2⟩ (fun hHeld2 => ?_)
   clear hK K hHeld
   have hHeld := hHeld2
   clear hHeld2
   try simp only [Act.put,sI_,sZ_,sS_]
   refine tkH 5 (.tuple #[.agg #[.int .i64 G.src, .int .i64 G.dst, .bool G.answer, .int .i64 G.t1, .int .i64 G.t2, .int .i64 G.t], .bool gb, .int .i64 c]) (some 9) rfl hHeld ?_
   try simp only [Act.put,sI_,sZ_,sS_]
   refine tkH 6 (.agg #[.int .i64 G.src, .int .i64 G.dst, .bool G.answer, .int .i64 G.t1, .int .i64 G.t2, .int .i64 G.t]) (some 15) rfl hHeld ?_
   try simp only [Act.put,sI_,sZ_,sS_]
   refine tkH 7 (.bool gb) (some 16) rfl hHeld ?_
   try simp only [Act.put,sI_,sZ_,sS_]
   refine tkH 8 (.int .i64 c) (some 17) rfl hHeld ?_
   try simp only [Act.put,sI_,sZ_,sS_]
   try simp only [Act.put,sI_,sZ_,sS_]
   refine wpAnyH_ready (rs := [10]) kRf (by simp) ?_
   refine AllReadyH.cons rfl (fun K hK => ?_) AllReadyH.nil
   go_simp
   refine hK.out _ _ ⟨(HKs.out w2 W1.heap.size (Nat.ne_of_lt hsl) 0).trans z0, (HKs.out w2 W1.heap.size (Nat.ne_of_lt hsl) 1).trans z1, (HKs.out w2 W1.heap.size (Nat.ne_of_lt hsl) 2).trans z2⟩ (fun hHeld2 => ?_)
   clear hK K hHeld
   have hHeld := hHeld2
   clear hHeld2
   try simp only [Act.put,sI_,sZ_,sS_]
   refine tkH 11 (.bool gb) (some 6) rfl hHeld ?_
   try simp only [Act.put,sI_,sZ_,sS_]
   refine tkH 12 (.int .i64 c) (some 7) rfl hHeld ?_
   try simp only [Act.put,sI_,sZ_,sS_]
   refine wpAnyH_done kRf ?_ _
   try simp only [Act.put,sI_,sZ_,sS_]
   have hKw : Kept (Mine b.M uv) w w2 := ((Kept.refl _ w).below HB1).trans ((((Kept.refl (Mine b.M uv) W1).alloc _).drew).trans hK2 (fun k e => .inl e)) (fun k e => .inl e)
   have hKs := (((((((Kept.refl (fun k => k = W1.heap.size) w2).set W1.heap.size 0 (.int .i64 G.src) (.inl rfl)).set W1.heap.size 1 (.int .i64 G.dst) (.inl rfl)).set W1.heap.size 2 (.bool G.answer) (.inl rfl)).set W1.heap.size 3 (.int .i64 G.t1) (.inl rfl)).set W1.heap.size 4 (.int .i64 G.t2) (.inl rfl)).set W1.heap.size 5 (.int .i64 G.t) (.inl rfl))
   have HB3 := Lib.hid ((((((((HBZ.out.set 0 (.int .i64 G.src)).set 1 (.int .i64 G.dst)).set 2 (.bool G.answer)).set 3 (.int .i64 G.t1)).set 4 (.int .i64 G.t2)).set 5 (.int .i64 G.t))).conv (show _ = #[.int .i64 G.src, .int .i64 G.dst, .bool G.answer, .int .i64 G.t1, .int .i64 G.t2, .int .i64 G.t] from rfl))
   have HQ3 := Lib.hid (show ∀ q, uv'.ownBlock = some q → uv.ownBlock = some q ∨ w.heap.size ≤ q from fun q e => (hq2 q e).imp id (fun h9 => by simp at h9; omega))
   have hun : uv'.ownBlock ≠ some W1.heap.size := fun e => by
    rcases hq2 _ e with e2 | e2
    ·have := HOwn.out _ e2; omega
    ·simp at e2; omega
   have HR3 := Lib.hid (hR2.other hKs (fun k e => by subst e; exact ⟨by omega, by omega, hun⟩))
   have HK3 := Lib.hid (hKw.trans hKs (fun k e => .inr (by rw [e]; omega)))
   have hgw : w.heap.size ≤ W1.heap.size := by omega
   clear hK2 hKw hKs hR2 hq2 z0 z1 z2 hHeld t0 t1 t2 t3 t4 t5 tf tl
   go_wp2_with fail
   go_meet
   case rel => exact ⟨_, uv', rfl, rfl, rfl, HB3.out, hgw, hun, HR3.out, HK3.out, HQ3.out⟩
 case rest =>
  obtain ⟨g, uv', rfl, rfl, rfl, hbL, hg, hun, hR, hK, hq'⟩ := hcut
  obtain ⟨w3, hw3⟩ : ∃ x : World, x = wc := ⟨_, rfl⟩
  subst hw3
  have hgb : gb = false := by rw [← egb, hq]; rfl
  have HN := Lib.hid (HU.out.world hR hK HH.out)
  have HK3 := Lib.hid (show Kept (SMine b uv) w w3 from (Kept.refl _ w).trans hK (fun k e => .inl (smine_kept e)))
  have HQ3 := Lib.hid hq'
  clear hR hK hq' hbL hun eG egb hq
  subst hgb
  by_cases hc : c = 0
  ·have b1 : (c != 0) = false := by simp [hc]
   have b2 : decide (c = 0) = true := by simp [hc]
   clear hc
   go_wp2_with fail
   go_ret
   exact ⟨rfl, uv', HN.out, HK3.out, HQ3.out⟩
  ·have b1 : (c != 0) = true := by simp [hc]
   have b2 : decide (c = 0) = false := by simp [hc]
   clear hc
   go_wp2_with fail
   go_ret
   exact ⟨rfl, uv', HN.out, HK3.out, HQ3.out⟩
end


section
open Go.RowKit
variable {W0 w w' : World} {b : SAd} {A1 A2 : Option Addr} {c1 c2 : Nat} {p t t' : Int} {uv uv' : Value} {us us' : List RLetter} {S : Nat → NSt}
set_option maxRecDepth 100000 in
set_option maxHeartbeats 8000000 in
theorem snet_Edges (ss rs : List Int) (h : SNetAt W0 w b A1 A2 c1 c2 p t uv us S) (i1 : IsInts W0 A1 b.n c1 ss) (i2 : IsInts W0 A2 b.n c2 rs) (n6 : b.n ≤ 6) (sb : ∀ (i : Nat) z, ss[i]? = some z → 0 ≤ z ∧ z ≤ 1000000) (rb : ∀ (i : Nat) z, rs[i]? = some z → -1000 ≤ z ∧ z ≤ 1000) :
  Calls Tryz.prog 44 #[.pointer (some ⟨b.M, 0, none⟩)] w fun e w' => EdgesToldR w w' e (netE (hereAt ss rs t) S b.n) (netC (hereAt ss rs t) S b.n) := by
 obtain ⟨i0, hi, hz0, hz1, hz2⟩ := info_parts infoEdgeT
 have HU := Lib.hid h
 have kM := h.W.blk.lt
 have hnc := h.nd.1
 have hcm := h.nd.2
 unfold maxLen at hcm
 have kq : b.Q < w.heap.size := Nat.lt_of_lt_of_le h.Qo.2.1 h.W.Bw
 have HLens := Lib.hid (fun k hk => netL_len (h := hereAt ss rs t) (S := S) (n := b.n) (fun i hi => (h.sN i hi).1) k hk)
 have HEok := Lib.hid (fun k (hk : k ≤ b.n) => show ∀ z ∈ netL (hereAt ss rs t) S k, z.ok from fun z hz => by
  obtain ⟨i, hi, hz⟩ := List.mem_flatMap.1 hz
  exact tellE_ok (h.at_ i (by have := List.mem_range.1 hi; omega)).ok z hz)
 have ls := i1.1
 have lr := i2.1
 have HI1 := Lib.hid i1
 have HI2 := Lib.hid i2
 clear h i1 i2
 go_enter Tryz.func44, Tryz.ntmps44
 go_wp2_with fail
 go_loopw [4, 5] (fun vv iv wr => ∃ i : Nat, iv = .int .i64 i ∧ i ≤ b.n ∧ netC (hereAt ss rs t) S i = 0 ∧ wr.ownsRow w.heap.size 208 4 vv (netL (hereAt ss rs t) S i).length ((netL (hereAt ss rs t) S i).flatMap REdge.cells) ∧ Below w.heap.size w wr) (fun _ iv _ => b.n - (intOf iv).toNat)
 case atStart => exact ⟨0, rfl, by omega, rfl, by simpa [netL] using own_nil _ _ _ _, Below.refl _ _⟩
 case round =>
  obtain ⟨i, rfl, hi', hC, hO, hB⟩ := hrel
  have HO := Lib.hid hO
  have HBr := Lib.hid hB
  have HC := Lib.hid hC
  have hzr := hB.size
  have HNr := Lib.hid (HU.out.below hB)
  have z4 : wr.cell? ⟨b.M, 4, none⟩ = some (.slice (some ⟨b.Q, 0, none⟩) b.n b.d) := HNr.out.W.blk.cell 4
  by_cases d1 : i < b.n
  ·have zr : wr.cell? ⟨b.Q, i, none⟩ = some (.pointer (some ⟨b.gi i, 0, none⟩)) := HNr.out.row i d1
   have g1 : (i : Int) < (b.n : Int) := by omega
   obtain ⟨sv, hs⟩ : ∃ z, ss[i]? = some z := ⟨_, List.getElem?_eq_getElem (by omega)⟩
   obtain ⟨rv, hr⟩ : ∃ z, rs[i]? = some z := ⟨_, List.getElem?_eq_getElem (by omega)⟩
   have CR := Lib.hid (by have := r2_WRead W0 b.M b.B b.n A1 A2 c1 c2 ss rs t uv us i sv rv wr HNr.out.W HI1.out HI2.out hs hr (sb i sv hs) (rb i rv hr); rw [← hereAt_eq hs hr] at this; exact this)
   have hq : b.Q < wr.heap.size := by omega
   have hlen := HLens.out i (by omega)
   have hmul : i * b.n ≤ 36 := by have := Nat.mul_le_mul (show i ≤ 6 by omega) n6; omega
   obtain ⟨L, hL⟩ : ∃ L, netL (hereAt ss rs t) S i = L := ⟨_, rfl⟩
   rw [hL] at HO hlen
   have HL := Lib.hid hL
   obtain ⟨here, hhere⟩ : ∃ v, hereAt ss rs t i = v := ⟨_, rfl⟩
   rw [hhere] at CR
   have HH := Lib.hid hhere
   clear hO hB hC hs hr hL hhere
   go_wp2_with fail
   refine CR.out.mono ?_
   rintro e w2 ⟨rfl, hb2⟩
   have HB2 := Lib.hid hb2
   have hz2' := hb2.size
   have HN2 := Lib.hid (HNr.out.below hb2)
   have y4 : w2.cell? ⟨b.M, 4, none⟩ = some (.slice (some ⟨b.Q, 0, none⟩) b.n b.d) := HN2.out.W.blk.cell 4
   have yr : w2.cell? ⟨b.Q, i, none⟩ = some (.pointer (some ⟨b.gi i, 0, none⟩)) := HN2.out.row i d1
   have CE := Lib.hid (r2_Edges (b.gi i) (S i) here w2 (HN2.out.at_ i d1))
   clear hb2 CR z4 zr HN2
   go_wp2_with fail
   refine CE.out.mono ?_
   rintro e w3 ⟨A3, n3, k3, rfl, hI3, hb3⟩
   have HB3 := Lib.hid (HB2.out.trans (hb3.mono HB2.out.size))
   have hz3 := HB3.out.size
   by_cases hc : tellC (S i) here = 0
   ·have hn3 : n3 = (tellE (S i) here).length := hI3.1.symm
    have hlt : n3 ≤ 6 := by rw [hn3]; have := tellE_len (S i) here; rw [(HU.out.sN i d1).1] at this; omega
    have HI3 := Lib.hid hI3
    have HN3 := Lib.hid hn3
    have HO3 := Lib.hid (own_below HO.out HB3.out)
    have HCC := Lib.hid (show netC (hereAt ss rs t) S (i + 1) = 0 by show (if netC (hereAt ss rs t) S i = 0 then tellC (S i) (hereAt ss rs t i) else _) = 0; rw [if_pos HC.out, HH.out]; exact hc)
    rw [hc]
    clear hI3 hb3 CE hn3 HO hc y4 yr
    go_wp2_with (at_builtin; refine wpList_append_recs REdge.cells REdge.ok 4 (fun _ => rfl) edge_oneT _ rfl _ _ 117 rfl w.heap.size 208 i0 _ 32 Tryz.underlying117 hi hz0 hz1 hz2 rfl (by decide) _ L.length (L.flatMap REdge.cells) rfl HO3.out A3 n3 k3 (tellE (S i) here) rfl HI3.out (by unfold maxLen; omega) (by omega) (by omega) ?_; intro v5 w5 ho5 hg5)
    have HO5 := Lib.hid (show w5.ownsRow w.heap.size 208 4 v5 (netL (hereAt ss rs t) S (i + 1)).length ((netL (hereAt ss rs t) S (i + 1)).flatMap REdge.cells) from by
     rw [netL_succ, HH.out, HL.out, List.length_append, List.flatMap_append, ← HN3.out]; exact ho5)
    have HB5 := Lib.hid ((HBr.out.trans (HB3.out.mono hzr)).grown hg5 (by omega) (fun k hk => (HO3.out.lt k hk).1))
    clear ho5 hg5 HO3 HI3
    go_wp2_with fail
    go_roundw
    case rel => exact ⟨i + 1, by go_num, by omega, HCC.out, HO5.out, HB5.out⟩
    case measure => go_light; simp [intOf]; omega
   ·have HCC := Lib.hid (show netC (hereAt ss rs t) S b.n = tellC (S i) here by
     have e : netC (hereAt ss rs t) S (i + 1) = tellC (S i) here := by show (if netC (hereAt ss rs t) S i = 0 then tellC (S i) (hereAt ss rs t i) else _) = _; rw [if_pos HC.out, HH.out]
     rw [← e]; exact netC_stays (by rw [e]; exact hc) (by omega))
    have HEE := Lib.hid (show netE (hereAt ss rs t) S b.n = [] by unfold netE; rw [HCC.out, if_neg hc])
    have HBw := Lib.hid (HBr.out.trans (HB3.out.mono hzr))
    obtain ⟨c, hcc⟩ : ∃ c, tellC (S i) here = c := ⟨_, rfl⟩
    rw [hcc] at hc HCC ⊢
    have b1 : (c != 0) = true := by simp [hc]
    have b2 : decide (c = 0) = false := by simp [hc]
    clear hI3 hb3 CE hcc hc y4 yr
    go_wp2_with fail
    refine bodyPost_ret (v := .tuple #[.slice none 0 0, .int .i64 c]) (by simp [results, Tryz.results44, go_sem]) rfl ?_
    exact ⟨none, 0, 0, by rw [HCC.out], by rw [HEE.out]; exact recs_nil _ _ _ _, HBw.out⟩
  ·obtain rfl : i = b.n := by omega
   obtain ⟨A9, n9, c9, e9, hI9⟩ := own_recs REdge.cells REdge.ok 4 (fun _ => rfl) hO (HEok.out b.n (Nat.le_refl _))
   have HI9 := Lib.hid hI9
   have HEE := Lib.hid (show netE (hereAt ss rs t) S b.n = netL (hereAt ss rs t) S b.n by unfold netE; rw [if_pos hC])
   rw [e9]
   clear hO HO hB hI9 e9 hC
   go_wp2_with fail
   refine bodyPost_ret (v := .tuple #[.slice A9 n9 c9, .int .i64 0]) (by simp [results, Tryz.results44, go_sem]) rfl ?_
   exact ⟨_, _, _, by rw [HC.out], by rw [HEE.out]; exact HI9.out, HBr.out⟩
end
end Go.Proofs.YtldlandcjegikaaGreatDoor
