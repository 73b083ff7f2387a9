/- Package net: New, walked. -/
import Derived.Test.YtfjpfkejajgkbaaDoorHNetA
import Derived.Deep.Light
namespace Go.Proofs.YtfjpfkejajgkbaaDoor
open Go.RowKit
set_option linter.unusedVariables false
set_option linter.unusedSimpArgs false
theorem infoPN : (Tryd.prog.info? 84).map (fun i => (i.zero, i.size, i.bytes)) = some (some (.pointer none), 1, 8) := by kernel_rfl
/-- the first i nodes of a net that is being made. -/
structure Making (w : World) (N n i : Nat) (p : Int) (g : Nat) (v : Value) (gi mb : Nat → Nat) : Prop where
  net : Blk w N 83 #[.pointer (some ⟨g, 0, none⟩), v]
  row : w.ownsRow (N + 1) 84 1 v i ((List.range i).map fun j => .pointer (some ⟨gi j, 0, none⟩))
  nd : ∀ j, j < i → NodeAt w (gi j) (mb j) 0 (NSt.start n j p) ∧ N < gi j ∧ N < mb j
  du : ∀ u, v.ownBlock = some u → ∀ j, j < i → u ≠ gi j ∧ u ≠ mb j
  dd : ∀ j k, j < i → k < i → j ≠ k → gi j ≠ gi k ∧ gi j ≠ mb k ∧ mb j ≠ mb k
theorem map_congr_range {f g : Nat → Value} {i : Nat} (h : ∀ j, j < i → f j = g j) : (List.range i).map f = (List.range i).map g :=
  List.map_congr_left fun j hj => h j (List.mem_range.1 hj)
theorem Making.step {w w2 w5 : World} {N n i gg cap ng nm : Nat} {p : Int} {g : Nat} {v : Value} {gi mb : Nat → Nat} (h : Making w N n i p g v gi mb) (hb : Below w.heap.size w w2) (hn : NodeAt w2 ng nm 0 (NSt.start n i p)) (h1 : w.heap.size ≤ ng) (h2 : w.heap.size ≤ nm)
    (hg5 : (w2.alloc (.cells #[.pointer (some ⟨ng, 0, none⟩)] 84)).grownBy w5 v.ownBlock) (hgg : v.ownBlock = some gg ∨ gg = (w2.alloc (.cells #[.pointer (some ⟨ng, 0, none⟩)] 84)).heap.size)
    (ho5 : w5.ownsRow (N + 1) 84 1 (.slice (some ⟨gg, 0, none⟩) (i + 1) cap) (i + 1) (((List.range i).map fun j => .pointer (some ⟨gi j, 0, none⟩)) ++ [.pointer (some ⟨ng, 0, none⟩)])) :
    Making (w5.setCell ⟨N, 1, none⟩ (.slice (some ⟨gg, 0, none⟩) (i + 1) cap)) N n (i + 1) p g (.slice (some ⟨gg, 0, none⟩) (i + 1) cap) (fun j => if j = i then ng else gi j) (fun j => if j = i then nm else mb j) := by
  have hNl := h.net.lt
  have hs2 := hb.size
  have hlt : ∀ u, v.ownBlock = some u → N + 1 ≤ u ∧ u < w.heap.size := h.row.lt
  have hNu : some N ≠ v.ownBlock := fun e => by have := (hlt N e.symm).1; omega
  have hgs : gg = w2.heap.size + 1 ∨ v.ownBlock = some gg := by
    rcases hgg with e | e
    · exact .inr e
    · left; simpa using e
  have hngl := hn.blk.lt
  have hnml := hn.mp.lt
  have keep : ∀ k, k < w2.heap.size → some k ≠ v.ownBlock → w5.heap[k]? = w2.heap[k]? := fun k hk hne => (hg5.block k (by simp; omega) hne).trans (Below.heap_alloc w2 _ k hk)
  have hng : some ng ≠ v.ownBlock := fun e => by have := (hlt ng e.symm).2; omega
  have hnm : some nm ≠ v.ownBlock := fun e => by have := (hlt nm e.symm).2; omega
  refine ⟨?_, ?_, fun j hj => ?_, fun u e j hj => ?_, fun j k hj hk hne => ?_⟩
  · have hN5 : Blk w5 N 83 #[.pointer (some ⟨g, 0, none⟩), v] := (keep N (by omega) hNu).trans (h.net.below hb hNl)
    exact (hN5.set 1 _).conv rfl
  · have e : ((List.range (i + 1)).map fun j => Value.pointer (some ⟨if j = i then ng else gi j, 0, none⟩)) = ((List.range i).map fun j => .pointer (some ⟨gi j, 0, none⟩)) ++ [.pointer (some ⟨ng, 0, none⟩)] := by
      rw [List.range_succ, List.map_append]
      congr 1
      · exact map_congr_range fun j hj => by rw [if_neg (by omega)]
      · simp
    rw [e]
    exact own_touched ho5 ((Touched.refl N w5).set 1 _) (by omega)
  · by_cases c : j = i
    · subst c
      simp only [if_pos]
      refine ⟨⟨?_, ?_, hn.ne, hn.ok⟩, by omega, by omega⟩
      · exact Blk.far (g := ng) ((keep ng hngl hng).trans hn.blk) (p := ⟨N, 1, none⟩) (by show ng ≠ N; omega) _
      · exact (hn.mp.block (keep nm hnml hnm)).far (by show nm ≠ N; omega) _
    · simp only [if_neg c]
      obtain ⟨hj1, hj2, hj3⟩ := h.nd j (by omega)
      have hg := hj1.blk.lt
      have hm := hj1.mp.lt
      have d := fun (u : Nat) (e : v.ownBlock = some u) => h.du u e j (by omega)
      have hj4 := hj1.below hb
      refine ⟨⟨?_, ?_, hj1.ne, hj1.ok⟩, hj2, hj3⟩
      · exact Blk.far (g := gi j) ((keep _ (by omega) (fun e => (d _ e.symm).1 rfl)).trans hj4.blk) (p := ⟨N, 1, none⟩) (by show gi j ≠ N; omega) _
      · exact (hj4.mp.block (keep _ (by omega) (fun e => (d _ e.symm).2 rfl))).far (by show mb j ≠ N; omega) _
  · have eu : gg = u := by simpa [Value.ownBlock] using e
    subst eu
    by_cases c : j = i
    · subst c
      simp only [if_pos]
      rcases hgs with e | e
      · omega
      · have := (hlt gg e).2; omega
    · simp only [if_neg c]
      obtain ⟨hj1, _, _⟩ := h.nd j (by omega)
      have hg := hj1.blk.lt
      have hm := hj1.mp.lt
      rcases hgs with e | e
      · omega
      · exact h.du _ e j (by omega)
  · by_cases c : j = i
    · subst c
      obtain ⟨hk1, _, _⟩ := h.nd k (by omega)
      have hg := hk1.blk.lt
      have hm := hk1.mp.lt
      simp only [if_pos, if_neg (fun e => hne (Eq.symm e) : ¬ k = j)]
      omega
    · by_cases c2 : k = i
      · subst c2
        obtain ⟨hk1, _, _⟩ := h.nd j (by omega)
        have hg := hk1.blk.lt
        have hm := hk1.mp.lt
        simp only [if_pos, if_neg c]
        omega
      · simp only [if_neg c, if_neg c2]
        exact h.dd j k (by omega) (by omega) hne
theorem Making.done {w w1 : World} {N n : Nat} {p : Int} {g B : Nat} {v : Value} {gi mb : Nat → Nat} {ss rs : List Int} (h : Making w N n n p g v gi mb) (hw : WorldU w1 g B n ss rs 0 (.slice none 0 0) []) (hN : w1.heap.size = N) (hb : Below w1.heap.size w1 w) (h1 : 1 ≤ n) : ∃ a : NAd, a.N = N ∧ a.g = g ∧ a.n = n ∧ NetAt w a ss rs p 0 (.slice none 0 0) [] 0 (fun i => NSt.start n i p) := by
  have hlow : ∀ u, v.ownBlock = some u → N + 1 ≤ u ∧ u < w.heap.size := h.row.lt
  have hc := fun {q : Nat} (hq : v.ownBlock = some q) => h.row.cells hq
  rcases h.row.2 with ⟨rfl, hn⟩ | ⟨q, cap, cur, rfl, hB, hg, hnc, hcm, hs, ht⟩
  · omega
  · have hBw := hw.Bw
    have hq := hlow q rfl
    refine ⟨⟨N, g, B, q, n, cap, gi, mb⟩, rfl, rfl, rfl, h.net, hw.below hb, fun i hi => ?_, hq.2, ⟨hnc, hcm⟩, fun i hi => (h.nd i hi).1, fun i hi => ⟨rfl, rfl, rfl⟩, ⟨by show B ≤ N; omega, by show B ≤ q; omega, by show q ≠ N; omega, fun i hi => ?_, fun i j hi hj hne => h.dd i j hi hj hne⟩, fun u e => by simp [Value.ownBlock] at e, by simp⟩
    · have hx := hc (q := q) rfl i (.pointer (some ⟨gi i, 0, none⟩)) (by rw [List.getElem?_map, List.getElem?_range hi]; rfl)
      rw [show (⟨q, 0, none⟩ : Addr).add i = ⟨q, i, none⟩ by unfold Addr.add; split <;> simp_all] at hx
      exact hx
    · obtain ⟨_, h2, h3⟩ := h.nd i hi
      have := h.du q rfl i hi
      exact ⟨by show B ≤ gi i; omega, by show B ≤ mb i; omega, by show gi i ≠ N; omega, by show mb i ≠ N; omega, this.1.symm, this.2.symm⟩
set_option maxRecDepth 100000 in
set_option maxHeartbeats 8000000 in
theorem net_New (A : Option Addr) (n c : Nat) (zs : List Int) (A2 : Option Addr) (n2 c2 : Nat) (ys : List Int) (p : Int) (w : World) (h : IsInts w A n c zs) (h2 : IsInts w A2 n2 c2 ys) (hc : newC zs ys p = 0) :
    Calls Tryd.prog 6 #[.slice A n c, .slice A2 n2 c2, .int .i64 p] w fun e w' => ∃ a : NAd, e = .returned (.tuple #[.pointer (some ⟨a.N, 0, none⟩), .nilIface]) ∧ a.n = n ∧ w.heap.size ≤ a.g ∧ NetAt w' a zs ys p 0 (.slice none 0 0) [] 0 (fun i => NSt.start n i p) ∧ Below w.heap.size w w' := by
  obtain ⟨i0, hi, hz0, hz1, hz2⟩ := info_parts infoPN
  obtain ⟨r1, r2, r3, r4, r5⟩ := newC_0 hc
  obtain ⟨p0, p1⟩ := rateB_iff.1 r1
  have hn1 : 1 ≤ n := by rw [← h.1]; exact r2
  have hn6 : n ≤ 6 := by rw [← h.1]; exact r3
  have CW := Lib.hid (world_New_u A n c zs A2 n2 c2 ys p w h h2 hc)
  clear h h2 hc r1 r2 r3 r4 r5
  go_enter Tryd.func6, Tryd.ntmps6
  go_wp2_with fail
  refine CW.out.mono ?_
  rintro e w1 ⟨g, B, rfl, hgw, hw1, hb1⟩
  have HW1 := Lib.hid hw1
  have HB1 := Lib.hid hb1
  have hz1' := hb1.size
  clear hw1 hb1 CW
  go_wp2_with fail
  obtain ⟨N, hN⟩ : ∃ N, w1.heap.size = N := ⟨_, rfl⟩
  obtain ⟨w2, hw2⟩ : ∃ W, (w1.alloc (.cells #[.pointer (some ⟨g, 0, none⟩), .slice none 0 0] 83)) = W := ⟨_, rfl⟩
  have hM : Making w2 N n 0 p g (.slice none 0 0) (fun _ => 0) (fun _ => 0) := ⟨by rw [← hw2, ← hN]; exact Blk.new w1 _ _, own_nil _ _ _ _, fun j hj => absurd hj (by omega), fun u e j hj => absurd hj (by omega), fun j k hj => absurd hj (by omega)⟩
  have hB2 : Below w1.heap.size w1 w2 := by rw [← hw2]; exact (Below.refl _ _).alloc (Nat.le_refl _) _
  have HM := Lib.hid hM
  have HB2 := Lib.hid hB2
  rw [hw2, hN]
  have HNe := Lib.hid hN
  clear hM hB2 hw2
  go_loopw [29] (fun iv wr => ∃ (i : Nat) (v : Value) (gi mb : Nat → Nat), iv = .int .i64 i ∧ i ≤ n ∧ Making wr N n i p g v gi mb ∧ Below w1.heap.size w1 wr) (fun iv _ => n - (intOf iv).toNat)
  case atStart => exact ⟨0, _, _, _, rfl, by omega, HM.out, HB2.out⟩
  case round =>
    obtain ⟨i, v, gi, mb, rfl, hi', hM, hB⟩ := hrel
    have HMi := Lib.hid hM
    have HBi := Lib.hid hB
    have hzr := hB.size
    have hNl := hM.net.lt
    by_cases d1 : i < n
    · have g1 : (i : Int) < (n : Int) := by omega
      have CN := Lib.hid (fun W => node_New n i p W hn1 hn6 d1 p0 p1)
      obtain ⟨AO, cO, rfl, hAc, hcm⟩ := own_slice hM.row
      unfold maxLen at hcm
      clear hM hB
      go_wp2_with fail
      refine (CN.out wr).mono ?_
      rintro e w3 ⟨ng, nm, rfl, k1, k2, hn3, hb3⟩
      have hNb : Blk w3 N 83 #[.pointer (some ⟨g, 0, none⟩), .slice AO i cO] := HMi.out.net.below hb3 hNl
      have y1 : w3.cell? ⟨N, 1, none⟩ = some (.slice AO i cO) := hNb.cell 1
      have yf : w3.frozen? ⟨N, 1, none⟩ = false := hNb.fz 1
      have hz3 := hb3.size
      have hN3 : N < w3.heap.size := hNb.lt
      have HN3 := Lib.hid hn3
      have HB3 := Lib.hid hb3
      have HO := Lib.hid (own_below HMi.out.row hb3)
      have hlow : ∀ u, (Value.slice AO i cO).ownBlock = some u → N + 1 ≤ u := fun u e => (HMi.out.row.lt u e).1
      have HLow := Lib.hid hlow
      clear hn3 hb3 CN hNb hlow
      go_wp2_with (at_builtin; refine wpList_append_lies _ rfl _ _ 81 rfl (N + 1) 84 i0 (.pointer none) 1 8 Tryd.underlying81 hi hz0 hz1 hz2 rfl (by decide) (.slice AO i cO) i ((List.range i).map fun j => .pointer (some ⟨gi j, 0, none⟩)) rfl ((HO.out).alloc _) ⟨w3.heap.size, 0, none⟩ 1 1 [.pointer (some ⟨ng, 0, none⟩)] rfl rfl (by exact cell_newAt w3 [.pointer (some ⟨ng, 0, none⟩)] _ _ rfl) (by intro u hu; rw [List.mem_singleton] at hu; subst hu; rfl) (by decide) (by unfold maxLen; omega) (by omega) (by simp; omega) _ rfl ?_; intro gg cap w5 ho5 hg5 hgg hlt5; have hNne : some N ≠ (Value.slice AO i cO).ownBlock := (fun e => by have := HLow.out _ e.symm; omega); have y5 : w5.cell? ⟨N, 1, none⟩ = some (.slice AO i cO) := hg5.cell ((World.cell?_alloc_lt _ _ ⟨N, 1, none⟩ hN3).trans y1) hNne; have yf5 : w5.frozen? ⟨N, 1, none⟩ = false := (World.frozen?_of_block (hg5.block N (by simp; omega) hNne)).trans ((World.frozen?_of_block (Below.heap_alloc w3 _ N hN3)).trans yf))
      have HMs := Lib.hid (HMi.out.step HB3.out HN3.out k1 k2 hg5 hgg ho5)
      have HB6 := Lib.hid (show Below w1.heap.size w1 (w5.setCell ⟨N, 1, none⟩ (.slice (some ⟨gg, 0, none⟩) (i + 1) cap)) from
        (((HBi.out.trans (HB3.out.mono hzr)).alloc (by omega) _).grown hg5 (by simp; omega) (fun k hk => by have := HLow.out k hk; have := HNe.out; omega)).setCell (by show w1.heap.size ≤ N; have := HNe.out; omega) _)
      clear ho5 hg5 hgg y5 yf5 y1 yf HO
      go_roundw
      case rel => exact ⟨i + 1, _, _, _, by go_num, by omega, HMs.out, HB6.out⟩
      case measure => go_light; simp [intOf]; omega
    · obtain rfl : i = n := by omega
      obtain ⟨a, e1, e2, e3, hA⟩ := hM.done HW1.out HNe.out hB hn1
      have HA := Lib.hid hA
      have HB9 := Lib.hid (HB1.out.trans (hB.mono hz1'))
      have E1 := Lib.hid e1
      have E2 := Lib.hid e2
      clear hM hB hA e1 e2
      go_wp2_with fail
      go_ret2
      exact ⟨a, by rw [E1.out]; rfl, e3, by rw [E2.out]; exact hgw, HA.out, HB9.out⟩
/-- clocks that are none make no net. -/
theorem net_New_no (A : Option Addr) (n c : Nat) (zs : List Int) (A2 : Option Addr) (n2 c2 : Nat) (ys : List Int) (p : Int) (w : World) (h : IsInts w A n c zs) (h2 : IsInts w A2 n2 c2 ys) (hp : i64B p) (hc : newC zs ys p ≠ 0) :
    Calls Tryd.prog 6 #[.slice A n c, .slice A2 n2 c2, .int .i64 p] w fun e w' => e = .returned (.tuple #[.pointer none, .iface 87 (.int .i64 (newC zs ys p))]) ∧ w = w' := by
  have CW := Lib.hid (world_New_no A n c zs A2 n2 c2 ys p w h h2 hp hc)
  obtain ⟨e, he⟩ : ∃ e, newC zs ys p = e := ⟨_, rfl⟩
  rw [he] at CW ⊢
  clear h h2 hc he
  go_enter Tryd.func6, Tryd.ntmps6
  go_wp2_with fail
  refine CW.out.mono ?_
  rintro e w1 ⟨rfl, rfl⟩
  go_wp2_with fail
  go_ret2
  exact ⟨rfl, rfl⟩
end Go.Proofs.YtfjpfkejajgkbaaDoor
