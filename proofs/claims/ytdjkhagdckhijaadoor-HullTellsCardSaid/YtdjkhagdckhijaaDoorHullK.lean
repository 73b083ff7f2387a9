/- slices.Clone and slices.CompactFunc of points, walked. -/
import Derived.Test.YtdjkhagdckhijaaDoorHullQ
import Derived.Test.YtdjkhagdckhijaaDoorOwn
import Derived.Test.YtdjkhagdckhijaaDoorDel
import Derived.Test.YtdjkhagdckhijaaDoorMat2
import Derived.Test.YtdjkhagdckhijaaDoorKept
import Derived.Test.YtdjkhagdckhijaaDoorTake
import Derived.Deep.DeepCutAuto
import Derived.Deep.CutBlock
import Derived.Deep.Light
namespace Go.Proofs.YtdjkhagdckhijaaDoor
open Go.RowKit
set_option linter.unusedVariables false
set_option linter.unusedSimpArgs false
theorem point_one (z : RPoint) : ∀ u ∈ RPoint.cells z, u.oneCell' = true := by intro u hu; simp [RPoint.cells] at hu; rcases hu with rfl | rfl <;> rfl
theorem points_one (zs : List RPoint) : ∀ u ∈ zs.flatMap RPoint.cells, u.oneCell' = true := fun u hu => by
  obtain ⟨z, _, h2⟩ := List.mem_flatMap.1 hu
  exact point_one z u h2
/-- the point at a place of a row. -/
def PtIn (cur : Array Value) (i : Nat) (z : RPoint) : Prop := cur[i * 2]? = some (.int .i64 z.x) ∧ cur[i * 2 + 1]? = some (.int .i64 z.y)
theorem PtIn.set {cur : Array Value} {i k : Nat} {z : RPoint} {a b : Value} (h : PtIn cur i z) (hne : i ≠ k) : PtIn ((cur.setIfInBounds (k * 2) a).setIfInBounds (k * 2 + 1) b) i z := by
  constructor
  · rw [Array.getElem?_setIfInBounds, if_neg (by omega), Array.getElem?_setIfInBounds, if_neg (by omega)]; exact h.1
  · rw [Array.getElem?_setIfInBounds, if_neg (by omega), Array.getElem?_setIfInBounds, if_neg (by omega)]; exact h.2
theorem PtIn.new {cur : Array Value} {k : Nat} {z : RPoint} (h : k * 2 + 1 < cur.size) : PtIn ((cur.setIfInBounds (k * 2) (.int .i64 z.x)).setIfInBounds (k * 2 + 1) (.int .i64 z.y)) k z := by
  constructor
  · rw [Array.getElem?_setIfInBounds, if_neg (by omega), Array.getElem?_setIfInBounds, if_pos rfl, if_pos (by omega)]
  · rw [Array.getElem?_setIfInBounds, if_pos rfl, if_pos (by rw [Array.size_setIfInBounds]; exact h)]
theorem PtIn.putL {cur : Array Value} {i o : Nat} {z : RPoint} {vs : List Value} (h : PtIn cur i z) (ho : i * 2 + 1 < o) : PtIn (putL cur o vs) i z := by
  constructor
  · rw [putL_get, if_neg (by omega)]; exact h.1
  · rw [putL_get, if_neg (by omega)]; exact h.2
theorem compAfter_snoc (l : List RPoint) : ∀ (a b z : RPoint), (a :: l)[l.length]? = some z → compAfter a (l ++ [b]) = compAfter a l ++ (if b.x = z.x then [] else [b]) := by
  induction l with
  | nil => intro a b z h; simp at h; subst h; simp [compAfter]
  | cons c l ih =>
    intro a b z h
    have h' : (c :: l)[l.length]? = some z := by simpa using h
    simp only [List.cons_append, compAfter]
    split
    · exact ih c b z h'
    · rw [ih c b z h']; rfl
theorem compX_snoc {es : List RPoint} {m : Nat} {z b : RPoint} (h0 : 0 < m) (hz : es[m - 1]? = some z) (hb : es[m]? = some b) : compX (es.take (m + 1)) = compX (es.take m) ++ (if b.x = z.x then [] else [b]) := by
  rw [List.take_add_one, hb]
  have hlt := (List.getElem?_eq_some_iff.1 hb).1
  have hl : (es.take m).length = m := by rw [List.length_take]; omega
  have hzt : (es.take m)[m - 1]? = some z := by rw [List.getElem?_take, if_pos (by omega)]; exact hz
  cases ht : es.take m with
  | nil => rw [ht] at hl; simp at hl; omega
  | cons a l =>
    rw [ht] at hl hzt
    simp at hl
    have := compAfter_snoc l a b z (by rw [show l.length = m - 1 by omega]; exact hzt)
    simp only [Option.toList, List.cons_append, compX]
    rw [this]
/-- while rows are made compact: m were seen, k were kept. -/
structure CompSt (es : List RPoint) (k m : Nat) (cur : Array Value) : Prop where
  len : (compX (es.take m)).length = k
  pre : ∀ (i : Nat) z, (compX (es.take m))[i]? = some z → PtIn cur i z
  rest : ∀ (i : Nat) z, m ≤ i + 1 → es[i]? = some z → PtIn cur i z
  lt : k < m
theorem CompSt.same {es : List RPoint} {k m : Nat} {cur : Array Value} (h : CompSt es k m cur) {z b : RPoint} (hz : es[m - 1]? = some z) (hb : es[m]? = some b) (e : b.x = z.x) : CompSt es k (m + 1) cur := by
  have := compX_snoc (by have := h.lt; omega) hz hb
  rw [if_pos e, List.append_nil] at this
  exact ⟨by rw [this]; exact h.len, by rw [this]; exact h.pre, fun i z hi => h.rest i z (by omega), by have := h.lt; omega⟩
theorem CompSt.next {es : List RPoint} {k m : Nat} {cur : Array Value} (h : CompSt es k m cur) {z b : RPoint} (hz : es[m - 1]? = some z) (hb : es[m]? = some b) (e : b.x ≠ z.x) (hs : k * 2 + 1 < cur.size) : CompSt es (k + 1) (m + 1) ((cur.setIfInBounds (k * 2) (.int .i64 b.x)).setIfInBounds (k * 2 + 1) (.int .i64 b.y)) := by
  have := compX_snoc (by have := h.lt; omega) hz hb
  rw [if_neg e] at this
  have hl := h.len
  have hk := h.lt
  refine ⟨by rw [this, List.length_append, hl]; rfl, fun i y hy => ?_, fun i y hi hy => (h.rest i y (by omega) hy).set (by omega), by omega⟩
  rw [this] at hy
  by_cases c : i < k
  · rw [List.getElem?_append_left (by omega)] at hy
    exact (h.pre i y hy).set (by omega)
  · rw [List.getElem?_append_right (by omega), hl] at hy
    have hi : i = k := by
      have := (List.getElem?_eq_some_iff.1 hy).1
      simp at this; omega
    subst hi
    simp at hy
    subst hy
    exact PtIn.new hs
theorem compX_len (es : List RPoint) : (compX es).length ≤ es.length := by
  have key : ∀ (l : List RPoint) a, (compAfter a l).length ≤ l.length := by
    intro l
    induction l with
    | nil => intro a; simp [compAfter]
    | cons b l ih => intro a; unfold compAfter; split <;> simp only [List.length_cons] <;> have := ih b <;> omega
  cases es with
  | nil => simp [compX]
  | cons a l => have := key l a; simp only [compX, List.length_cons]; omega
theorem clear_points (w : World) (b o m c : Nat) (h0 : 0 < m) (hc : ∀ j, j < m * 2 → (w.cell? ⟨b, o + j, none⟩).isSome = true) (hf : ∀ j, j < m * 2 → w.frozen? ⟨b, o + j, none⟩ = false) :
    ∃ Z : List Value, Z.length = m * 2 ∧ ∀ ty, (Builtin.clear_ #[27] ty #[.slice (some ⟨b, o, none⟩) m c]).run Tryd.prog w = .ok (.tuple #[]) (w.setCells b o Z) := by
  have hv : ∀ w, (zeroValue 29).run Tryd.prog w = .ok (.agg #[.int .i64 0, .int .i64 0]) w := fun _ => by kernel_rfl
  have hcl : (Value.agg #[.int .i64 0, .int .i64 0]).cells = #[.int .i64 0, .int .i64 0] := by kernel_rfl
  have hl : (Builtin.zeroCells #[.int .i64 0, .int .i64 0] m).toList.length = m * 2 := by simp [Builtin.zeroCells]
  have hone : ∀ v ∈ (Builtin.zeroCells #[.int .i64 0, .int .i64 0] m).toList, v.oneCell' = true := by
    intro v hv'
    simp only [Builtin.zeroCells, Array.toList_map, List.mem_map] at hv'
    obtain ⟨i, _, rfl⟩ := hv'
    have h2 : i % (#[Value.int .i64 0, .int .i64 0] : Array Value).size < 2 := Nat.mod_lt _ (by decide)
    generalize i % (#[Value.int .i64 0, .int .i64 0] : Array Value).size = r at h2
    match r, h2 with
    | 0, _ => rfl
    | 1, _ => rfl
  refine ⟨(Builtin.zeroCells #[.int .i64 0, .int .i64 0] m).toList, hl, fun ty => ?_⟩
  have hst := run_storeCells_cells (P := Tryd.prog) b o (Builtin.zeroCells #[.int .i64 0, .int .i64 0] m).toList 0 w (by rw [hl]; simpa using hc) (by rw [hl]; simpa using hf) hone
  simp only [Nat.add_zero] at hst
  obtain ⟨n, rfl⟩ : ∃ n, m = n + 1 := ⟨m - 1, by omega⟩
  simp [Builtin.clear_, run_underlying Tryd.underlying27, hv, hcl, hst]
theorem infoPt : (Tryd.prog.info? 29).map (fun i => (i.zero, i.size, i.bytes)) = some (some (.agg #[.int .i64 0, .int .i64 0]), 2, 16) := by kernel_rfl
theorem upper_2 (p q : RPoint) (W : World) : Calls Tryd.prog 30 #[.agg #[.int .i64 p.x, .int .i64 p.y], .agg #[.int .i64 q.x, .int .i64 q.y]] W fun e w' => e = .returned (.bool (p.x == q.x)) ∧ Below W.heap.size W w' := by
  go_enter Tryd.func30, Tryd.ntmps30
  go_wp2_with fail
  go_ret
  exact ⟨rfl, (by repeat (first | with_reducible exact Below.refl _ _ | (with_reducible refine Below.alloc ?_ (by first | omega | (simp; done) | (simp; omega)) _) | (with_reducible refine Below.setCell ?_ (by first | omega | (simp; done) | (simp; omega)) _) | (with_reducible refine Below.drew ?_) | (with_reducible refine below_drewN ?_ _) | (with_reducible assumption) | (with_reducible refine bel_step (by with_reducible assumption) ?_ (by first | omega | (simp; done) | (simp; omega)))))⟩
/-- a row of points, made compact: what a call leaves. -/
def Compacted (W : World) (g cap : Nat) (es : List RPoint) (e : Ending) (w' : World) : Prop :=
  ∃ cur', e = .returned (.slice (some ⟨g, 0, none⟩) (compX es).length cap) ∧ Blk w' g 29 cur' ∧ cur'.size = cap * 2 ∧ (∀ (i : Nat) z, (compX es)[i]? = some z → PtIn cur' i z) ∧ W.grownBy w' (some g)
theorem grown_bel {W w w' : World} {g : Nat} (h : W.grownBy w (some g)) (hb : Below w.heap.size w w') : W.grownBy w' (some g) :=
  ⟨hb.os.trans h.os, hb.tape.trans h.tape, hb.output.trans h.output, Nat.le_trans h.size hb.size, fun i hi hne => (hb.block i (Nat.lt_of_lt_of_le hi h.size)).trans (h.block i hi hne)⟩
theorem grown_set {W w : World} {g o : Nat} {u : Value} (h : W.grownBy w (some g)) : W.grownBy (w.setCell ⟨g, o, none⟩ u) (some g) :=
  ⟨h.os, h.tape, h.output, by simpa using h.size, fun i hi hne => by
    have hig : i ≠ g := fun e => hne (by rw [e])
    have := h.block i hi hne
    simp only [World.setCell, Array.getElem?_modify]
    rw [if_neg (fun e => hig e.symm)]; exact this⟩
theorem grown_sets {W : World} {g : Nat} : ∀ (vs : List Value) (o : Nat) (w : World), W.grownBy w (some g) → W.grownBy (w.setCells g o vs) (some g)
  | [], _, _, h => h
  | v :: r, o, w, h => grown_sets r (o + 1) _ (grown_set h)
set_option maxRecDepth 100000 in
set_option maxHeartbeats 8000000 in
theorem compact_points (g n cap : Nat) (es : List RPoint) (cur : Array Value) (W : World) (hb : Blk W g 29 cur) (hs : cur.size = cap * 2) (hl : es.length = n) (hn : n ≤ cap) (hm : cap ≤ maxLen) (hn6 : n ≤ 1000) (hp : ∀ (i : Nat) z, es[i]? = some z → PtIn cur i z) :
    Calls Tryd.prog 29 #[.slice (some ⟨g, 0, none⟩) n cap, .func (.func 30) #[] #[]] W (Compacted W g cap es) := by
  unfold maxLen at hm
  have HBk := Lib.hid hb
  have HP := Lib.hid hp
  have HL := Lib.hid hl
  have gl := hb.lt
  clear hb hp
  go_enter Tryd.func29, Tryd.ntmps29
  by_cases c2 : n < 2
  · have HC := Lib.hid (show compX es = es by
      match es, hl with
      | [], _ => rfl
      | [a], _ => rfl
      | a :: b :: r, h => simp at h; omega)
    have c3 : (n : Int) < 2 := by omega
    go_wp2_with fail
    refine bodyPost_ret (v := .slice (some ⟨g, 0, none⟩) n cap) (by simp [results, Tryd.results29, go_sem]) rfl ?_
    exact ⟨cur, by rw [HC.out, HL.out], HBk.out, hs, by rw [HC.out]; exact HP.out, ⟨rfl, rfl, rfl, Nat.le_refl _, fun _ _ _ => rfl⟩⟩
  · have c3 : ¬ (n : Int) < 2 := by omega
    go_wp2_with fail
    go_loopw [5] (fun kv wr => ∃ k : Nat, kv = .int .i64 k ∧ 1 ≤ k ∧ k ≤ n ∧ compX (es.take k) = es.take k ∧ Below W.heap.size W wr) (fun kv _ => n - (intOf kv).toNat)
    case atStart => exact ⟨1, rfl, by omega, by omega, by
      match es with
      | [] => rfl
      | a :: r => rfl, Below.refl _ _⟩
    case round =>
      obtain ⟨k, rfl, k1, k2, hC, hB⟩ := hrel
      have HC := Lib.hid hC
      have HB := Lib.hid hB
      have HZ := hB.size
      have HBr := Lib.hid (HBk.out.below hB gl)
      clear hC hB
      by_cases d1 : k < n
      · obtain ⟨b, hbz⟩ : ∃ z, es[k]? = some z := ⟨_, List.getElem?_eq_getElem (by rw [HL.out]; omega)⟩
        obtain ⟨a, haz⟩ : ∃ z, es[k - 1]? = some z := ⟨_, List.getElem?_eq_getElem (by rw [HL.out]; omega)⟩
        have x0 : wr.cell? ⟨g, k * 2, none⟩ = some (.int .i64 b.x) := (HBr.out.cell _).trans (HP.out k b hbz).1
        have x1 : wr.cell? ⟨g, k * 2 + 1, none⟩ = some (.int .i64 b.y) := (HBr.out.cell _).trans (HP.out k b hbz).2
        obtain ⟨j, hj⟩ : ∃ j, k = j + 1 := ⟨k - 1, by omega⟩
        have y0 : wr.cell? ⟨g, j * 2, none⟩ = some (.int .i64 a.x) := by have := (HBr.out.cell _).trans (HP.out (k - 1) a haz).1; rwa [show k - 1 = j by omega] at this
        have y1 : wr.cell? ⟨g, j * 2 + 1, none⟩ = some (.int .i64 a.y) := by have := (HBr.out.cell _).trans (HP.out (k - 1) a haz).2; rwa [show k - 1 = j by omega] at this
        have HSn := Lib.hid (compX_snoc (by omega) haz hbz)
        have HTk := Lib.hid (show es.take (k + 1) = es.take k ++ [b] by rw [List.take_add_one, hbz]; rfl)
        have HAz := Lib.hid haz
        have HBz := Lib.hid hbz
        have HQ := Lib.hid (fun w => upper_2 b a w)
        obtain ⟨r, hr⟩ : ∃ r, (b.x == a.x) = r := ⟨_, rfl⟩
        rw [hr] at HQ
        have HR := Lib.hid hr
        have q0 : (0 : Int) ≤ (k : Int) := by omega
        have q1 : (k : Int) < (n : Int) := by omega
        have q2 : (k : Int) - 1 = (j : Int) := by omega
        have q3 : (0 : Int) ≤ (j : Int) := by omega
        have q4 : (j : Int) < (n : Int) := by omega
        have q5 := IntWalk.i64_in (j : Int) (by omega)
        have HJ := Lib.hid hj
        clear haz hbz hr hj
        go_wp2_with fail
        refine wp_region_held_drew (S := fun w9 => w9.cell? ⟨g, k * 2, none⟩ = some (.int .i64 b.x) ∧ w9.cell? ⟨g, k * 2 + 1, none⟩ = some (.int .i64 b.y) ∧ w9.cell? ⟨g, j * 2, none⟩ = some (.int .i64 a.x) ∧ w9.cell? ⟨g, j * 2 + 1, none⟩ = some (.int .i64 a.y)) (by kernel_rfl) (⟨x0, x1, y0, y1⟩) (fun hHeld => ?_)
        refine take_d (i := 0) (v := (.func (.func 30) #[] #[])) (d := some 18) rfl (by kernel_rfl) (by kernel_rfl) (by kernel_rfl) (by kernel_rfl) (fun _ _ _ h => h) (Or.inl ⟨by kernel_rfl, fun w9 hw9 => by (go_simp)⟩) hHeld ?_
        try simp only [Act.put, List.setIfInBounds_toArray, List.set_cons_zero, List.set_cons_succ]
        refine take_d (i := 1) (v := (.slice (some ⟨g, 0, none⟩) n cap)) (d := some 19) rfl (by kernel_rfl) (by kernel_rfl) (by kernel_rfl) (by kernel_rfl) (fun _ _ _ h => h) (Or.inl ⟨by kernel_rfl, fun w9 hw9 => by (go_simp)⟩) hHeld ?_
        try simp only [Act.put, List.setIfInBounds_toArray, List.set_cons_zero, List.set_cons_succ]
        refine take_d (i := 2) (v := (.int .i64 k)) (d := some 20) rfl (by kernel_rfl) (by kernel_rfl) (by kernel_rfl) (by kernel_rfl) (fun _ _ _ h => h) (Or.inl ⟨by kernel_rfl, fun w9 hw9 => by (go_simp)⟩) hHeld ?_
        try simp only [Act.put, List.setIfInBounds_toArray, List.set_cons_zero, List.set_cons_succ]
        refine take_d (i := 3) (v := (.pointer (some ⟨g, k * 2, none⟩))) (d := some 21) rfl (by kernel_rfl) (by kernel_rfl) (by kernel_rfl) (by kernel_rfl) (fun _ _ _ h => h) (Or.inl ⟨by kernel_rfl, fun w9 hw9 => by (go_simp)⟩) hHeld ?_
        try simp only [Act.put, List.setIfInBounds_toArray, List.set_cons_zero, List.set_cons_succ]
        refine take_d (i := 4) (v := (.agg #[.int .i64 b.x, .int .i64 b.y])) (d := some 22) rfl (by kernel_rfl) (by kernel_rfl) (by kernel_rfl) (by kernel_rfl) (fun _ _ _ h => h) (Or.inl ⟨by kernel_rfl, fun w9 hw9 => by (obtain ⟨a0, a1, a2, a3⟩ := hw9; go_simp)⟩) hHeld ?_
        try simp only [Act.put, List.setIfInBounds_toArray, List.set_cons_zero, List.set_cons_succ]
        refine take_d (i := 5) (v := (.slice (some ⟨g, 0, none⟩) n cap)) (d := some 23) rfl (by kernel_rfl) (by kernel_rfl) (by kernel_rfl) (by kernel_rfl) (fun _ _ _ h => h) (Or.inl ⟨by kernel_rfl, fun w9 hw9 => by (go_simp)⟩) hHeld ?_
        try simp only [Act.put, List.setIfInBounds_toArray, List.set_cons_zero, List.set_cons_succ]
        refine take_d (i := 6) (v := (.int .i64 k)) (d := some 24) rfl (by kernel_rfl) (by kernel_rfl) (by kernel_rfl) (by kernel_rfl) (fun _ _ _ h => h) (Or.inl ⟨by kernel_rfl, fun w9 hw9 => by (go_simp)⟩) hHeld ?_
        try simp only [Act.put, List.setIfInBounds_toArray, List.set_cons_zero, List.set_cons_succ]
        refine take_d (i := 7) (v := (.int .i64 j)) (d := some 25) rfl (by kernel_rfl) (by kernel_rfl) (by kernel_rfl) (by kernel_rfl) (fun _ _ _ h => h) (Or.inl ⟨by kernel_rfl, fun w9 hw9 => by (go_simp)⟩) hHeld ?_
        try simp only [Act.put, List.setIfInBounds_toArray, List.set_cons_zero, List.set_cons_succ]
        refine take_d (i := 8) (v := (.pointer (some ⟨g, j * 2, none⟩))) (d := some 26) rfl (by kernel_rfl) (by kernel_rfl) (by kernel_rfl) (by kernel_rfl) (fun _ _ _ h => h) (Or.inl ⟨by kernel_rfl, fun w9 hw9 => by (go_simp)⟩) hHeld ?_
        try simp only [Act.put, List.setIfInBounds_toArray, List.set_cons_zero, List.set_cons_succ]
        refine take_d (i := 9) (v := (.agg #[.int .i64 a.x, .int .i64 a.y])) (d := some 27) rfl (by kernel_rfl) (by kernel_rfl) (by kernel_rfl) (by kernel_rfl) (fun _ _ _ h => h) (Or.inl ⟨by kernel_rfl, fun w9 hw9 => by (obtain ⟨a0, a1, a2, a3⟩ := hw9; go_simp)⟩) hHeld ?_
        try simp only [Act.put, List.setIfInBounds_toArray, List.set_cons_zero, List.set_cons_succ]
        try simp only [Act.put, List.setIfInBounds_toArray, List.set_cons_zero, List.set_cons_succ]
        refine wpAnyH_ready (rs := [10]) (by kernel_rfl) (by simp) ?_
        refine AllReadyH.cons rfl (fun K hK => ?_) AllReadyH.nil
        go_simp
        refine (HQ.out _).mono ?_
        rintro e w1 ⟨rfl, hb1⟩
        have HB1 := Lib.hid (show Below wr.heap.size wr w1 from (((Below.refl wr.heap.size wr).drew).trans hb1))
        clear hb1
        refine hK.out _ _ (⟨(HB1.out.cell (p := ⟨g, k * 2, none⟩) HBr.out.lt).trans x0, (HB1.out.cell (p := ⟨g, k * 2 + 1, none⟩) HBr.out.lt).trans x1, (HB1.out.cell (p := ⟨g, j * 2, none⟩) HBr.out.lt).trans y0, (HB1.out.cell (p := ⟨g, j * 2 + 1, none⟩) HBr.out.lt).trans y1⟩) (fun hHeld2 => ?_)
        clear hK K hHeld
        have hHeld := hHeld2
        try simp only [Act.put, List.setIfInBounds_toArray, List.set_cons_zero, List.set_cons_succ]
        refine wpAnyH_done (by kernel_rfl) ?_ _
        try simp only [Act.put, List.setIfInBounds_toArray, List.set_cons_zero, List.set_cons_succ]
        have HBb := Lib.hid (HBr.out.below HB1.out HBr.out.lt)
        have HBW := Lib.hid (HB.out.trans (HB1.out.mono HZ))
        have HZ1 := HBW.out.size
        clear hHeld x0 x1 y0 y1 HQ HBr HB HB1 q5
        cases r
        · have HC2 := Lib.hid (show compX (es.take (k + 1)) = es.take (k + 1) by rw [HSn.out, HC.out, HTk.out, if_neg (by have := HR.out; simpa using this)])
          go_wp2_with fail
          go_roundw
          case rel => exact ⟨k + 1, by go_num, by omega, by omega, HC2.out, HBW.out⟩
          case measure => go_light; simp [intOf]; omega
        · have hlk : (es.take k).length = k := by rw [List.length_take, HL.out]; omega
          have hct : compX (es.take (k + 1)) = es.take k := by rw [HSn.out, HC.out, if_pos (by have := HR.out; simpa using this), List.append_nil]
          have HS0 := Lib.hid (show CompSt es k (k + 1) cur from {
            len := by rw [hct, hlk]
            pre := fun i z hz => by
              rw [hct, List.getElem?_take] at hz
              split at hz
              · exact HP.out i z hz
              · cases hz
            rest := fun i z _ hz => HP.out i z hz
            lt := by omega })
          have q6 : k ≤ cap := by omega
          have q7 : (k : Int) ≤ (n : Int) := by omega
          have q8 : (n : Int) ≤ (cap : Int) := by omega
          have q9 : ¬ cap = k := by omega
          clear hlk hct HC HSn HTk HAz HBz HR q2 q3 q4
          go_wp2_with fail
          obtain ⟨N1, hN1⟩ : ∃ x, n - k = x := ⟨_, rfl⟩
          obtain ⟨C1, hC1⟩ : ∃ x, cap - k = x := ⟨_, rfl⟩
          obtain ⟨O, hO⟩ : ∃ x, k * 2 = x := ⟨_, rfl⟩
          rw [hN1, hC1, hO]
          have HN1 := Lib.hid hN1
          have HC1 := Lib.hid hC1
          have HO := Lib.hid hO
          clear hN1 hC1 hO
          go_loopw [5, 7] (fun kv jv wr => ∃ (k' j' m : Nat) (cur' : Array Value), kv = .int .i64 k' ∧ jv = .int .i64 j' ∧ m = k + j' ∧ 1 ≤ j' ∧ m ≤ n ∧ CompSt es k' m cur' ∧ cur'.size = cap * 2 ∧ Blk wr g 29 cur' ∧ W.grownBy wr (some g)) (fun _ jv _ => n - (intOf jv).toNat)
          case atStart => exact ⟨k, 1, k + 1, cur, rfl, rfl, rfl, by omega, by omega, HS0.out, hs, HBb.out, ⟨HBW.out.os, HBW.out.tape, HBW.out.output, HBW.out.size, fun i hi _ => HBW.out.block i hi⟩⟩
          case round =>
            obtain ⟨k', j', m, cur', rfl, rfl, hm', hj1, hmn, hS, hsz, hb', hG⟩ := hrel
            have HSt := Lib.hid hS
            have HBx := Lib.hid hb'
            have HGx := Lib.hid hG
            have HM := Lib.hid hm'
            have hkm := hS.lt
            have e1 := HN1.out
            have e2 := HO.out
            have e3 := HC1.out
            by_cases d3 : m < n
            · obtain ⟨b2, hb2⟩ : ∃ z, es[m]? = some z := ⟨_, List.getElem?_eq_getElem (by rw [HL.out]; omega)⟩
              obtain ⟨a2, ha2⟩ : ∃ z, es[m - 1]? = some z := ⟨_, List.getElem?_eq_getElem (by rw [HL.out]; omega)⟩
              obtain ⟨i', hi'⟩ : ∃ i', j' = i' + 1 := ⟨j' - 1, by omega⟩
              have p0 := hS.rest m b2 (by omega) hb2
              have p1 := hS.rest (m - 1) a2 (by omega) ha2
              have x0 : wr.cell? ⟨g, O + j' * 2, none⟩ = some (.int .i64 b2.x) := by have := (hb'.cell _).trans p0.1; rwa [show m * 2 = O + j' * 2 by omega] at this
              have x1 : wr.cell? ⟨g, O + j' * 2 + 1, none⟩ = some (.int .i64 b2.y) := by have := (hb'.cell _).trans p0.2; rwa [show m * 2 + 1 = O + j' * 2 + 1 by omega] at this
              have y0 : wr.cell? ⟨g, O + i' * 2, none⟩ = some (.int .i64 a2.x) := by have := (hb'.cell _).trans p1.1; rwa [show (m - 1) * 2 = O + i' * 2 by omega] at this
              have y1 : wr.cell? ⟨g, O + i' * 2 + 1, none⟩ = some (.int .i64 a2.y) := by have := (hb'.cell _).trans p1.2; rwa [show (m - 1) * 2 + 1 = O + i' * 2 + 1 by omega] at this
              have gl2 := hb'.lt
              have HQ := Lib.hid (fun w => upper_2 b2 a2 w)
              obtain ⟨r, hr⟩ : ∃ r, (b2.x == a2.x) = r := ⟨_, rfl⟩
              rw [hr] at HQ
              have HR2 := Lib.hid hr
              have HA2 := Lib.hid ha2
              have HB2 := Lib.hid hb2
              have HSz := Lib.hid hsz
              have t0 : (0 : Int) ≤ (j' : Int) := by omega
              have t1 : (j' : Int) < (N1 : Int) := by omega
              have t2 : (j' : Int) - 1 = (i' : Int) := by omega
              have t3 : (0 : Int) ≤ (i' : Int) := by omega
              have t4 : (i' : Int) < (N1 : Int) := by omega
              have t5 := IntWalk.i64_in (i' : Int) (by omega)
              have t6 : (0 : Int) ≤ (k' : Int) := by omega
              have t7 : (k' : Int) < (n : Int) := by omega
              have HK2 := Lib.hid (show k' * 2 + 1 < cur'.size by omega)
              have HM2 := Lib.hid (show m + 1 = k + (j' + 1) by omega)
              have HI' := Lib.hid hi'
              have hmn1 : m + 1 ≤ n := by omega
              have hjn1 : j' < n := by omega
              clear ha2 hb2 hr hi' e1 e2 e3 hS hb' hG hm' hsz p0 p1
              go_wp2_with fail
              refine wp_region_held_drew (S := fun w9 => w9.cell? ⟨g, O + j' * 2, none⟩ = some (.int .i64 b2.x) ∧ w9.cell? ⟨g, O + j' * 2 + 1, none⟩ = some (.int .i64 b2.y) ∧ w9.cell? ⟨g, O + i' * 2, none⟩ = some (.int .i64 a2.x) ∧ w9.cell? ⟨g, O + i' * 2 + 1, none⟩ = some (.int .i64 a2.y)) (by kernel_rfl) (⟨x0, x1, y0, y1⟩) (fun hHeld => ?_)
              refine take_d (i := 0) (v := (.func (.func 30) #[] #[])) (d := some 38) rfl (by kernel_rfl) (by kernel_rfl) (by kernel_rfl) (by kernel_rfl) (fun _ _ _ h => h) (Or.inl ⟨by kernel_rfl, fun w9 hw9 => by (go_simp)⟩) hHeld ?_
              try simp only [Act.put, List.setIfInBounds_toArray, List.set_cons_zero, List.set_cons_succ]
              refine take_d (i := 1) (v := (.slice (some ⟨g, O, none⟩) N1 C1)) (d := some 39) rfl (by kernel_rfl) (by kernel_rfl) (by kernel_rfl) (by kernel_rfl) (fun _ _ _ h => h) (Or.inl ⟨by kernel_rfl, fun w9 hw9 => by (go_simp)⟩) hHeld ?_
              try simp only [Act.put, List.setIfInBounds_toArray, List.set_cons_zero, List.set_cons_succ]
              refine take_d (i := 2) (v := (.int .i64 j')) (d := some 40) rfl (by kernel_rfl) (by kernel_rfl) (by kernel_rfl) (by kernel_rfl) (fun _ _ _ h => h) (Or.inl ⟨by kernel_rfl, fun w9 hw9 => by (go_simp)⟩) hHeld ?_
              try simp only [Act.put, List.setIfInBounds_toArray, List.set_cons_zero, List.set_cons_succ]
              refine take_d (i := 3) (v := (.pointer (some ⟨g, O + j' * 2, none⟩))) (d := some 41) rfl (by kernel_rfl) (by kernel_rfl) (by kernel_rfl) (by kernel_rfl) (fun _ _ _ h => h) (Or.inl ⟨by kernel_rfl, fun w9 hw9 => by (go_simp)⟩) hHeld ?_
              try simp only [Act.put, List.setIfInBounds_toArray, List.set_cons_zero, List.set_cons_succ]
              refine take_d (i := 4) (v := (.agg #[.int .i64 b2.x, .int .i64 b2.y])) (d := some 42) rfl (by kernel_rfl) (by kernel_rfl) (by kernel_rfl) (by kernel_rfl) (fun _ _ _ h => h) (Or.inl ⟨by kernel_rfl, fun w9 hw9 => by (obtain ⟨a0, a1, a2, a3⟩ := hw9; go_simp)⟩) hHeld ?_
              try simp only [Act.put, List.setIfInBounds_toArray, List.set_cons_zero, List.set_cons_succ]
              refine take_d (i := 5) (v := (.slice (some ⟨g, O, none⟩) N1 C1)) (d := some 43) rfl (by kernel_rfl) (by kernel_rfl) (by kernel_rfl) (by kernel_rfl) (fun _ _ _ h => h) (Or.inl ⟨by kernel_rfl, fun w9 hw9 => by (go_simp)⟩) hHeld ?_
              try simp only [Act.put, List.setIfInBounds_toArray, List.set_cons_zero, List.set_cons_succ]
              refine take_d (i := 6) (v := (.int .i64 j')) (d := some 44) rfl (by kernel_rfl) (by kernel_rfl) (by kernel_rfl) (by kernel_rfl) (fun _ _ _ h => h) (Or.inl ⟨by kernel_rfl, fun w9 hw9 => by (go_simp)⟩) hHeld ?_
              try simp only [Act.put, List.setIfInBounds_toArray, List.set_cons_zero, List.set_cons_succ]
              refine take_d (i := 7) (v := (.int .i64 i')) (d := some 45) rfl (by kernel_rfl) (by kernel_rfl) (by kernel_rfl) (by kernel_rfl) (fun _ _ _ h => h) (Or.inl ⟨by kernel_rfl, fun w9 hw9 => by (go_simp)⟩) hHeld ?_
              try simp only [Act.put, List.setIfInBounds_toArray, List.set_cons_zero, List.set_cons_succ]
              refine take_d (i := 8) (v := (.pointer (some ⟨g, O + i' * 2, none⟩))) (d := some 46) rfl (by kernel_rfl) (by kernel_rfl) (by kernel_rfl) (by kernel_rfl) (fun _ _ _ h => h) (Or.inl ⟨by kernel_rfl, fun w9 hw9 => by (go_simp)⟩) hHeld ?_
              try simp only [Act.put, List.setIfInBounds_toArray, List.set_cons_zero, List.set_cons_succ]
              refine take_d (i := 9) (v := (.agg #[.int .i64 a2.x, .int .i64 a2.y])) (d := some 47) rfl (by kernel_rfl) (by kernel_rfl) (by kernel_rfl) (by kernel_rfl) (fun _ _ _ h => h) (Or.inl ⟨by kernel_rfl, fun w9 hw9 => by (obtain ⟨a0, a1, a2, a3⟩ := hw9; go_simp)⟩) hHeld ?_
              try simp only [Act.put, List.setIfInBounds_toArray, List.set_cons_zero, List.set_cons_succ]
              try simp only [Act.put, List.setIfInBounds_toArray, List.set_cons_zero, List.set_cons_succ]
              refine wpAnyH_ready (rs := [10]) (by kernel_rfl) (by simp) ?_
              refine AllReadyH.cons rfl (fun K hK => ?_) AllReadyH.nil
              go_simp
              refine (HQ.out _).mono ?_
              rintro e w2 ⟨rfl, hb2⟩
              have HC2 := Lib.hid (show Below wr.heap.size wr w2 from (((Below.refl wr.heap.size wr).drew).trans hb2))
              clear hb2
              refine hK.out _ _ (⟨(HC2.out.cell (p := ⟨g, O + j' * 2, none⟩) gl2).trans x0, (HC2.out.cell (p := ⟨g, O + j' * 2 + 1, none⟩) gl2).trans x1, (HC2.out.cell (p := ⟨g, O + i' * 2, none⟩) gl2).trans y0, (HC2.out.cell (p := ⟨g, O + i' * 2 + 1, none⟩) gl2).trans y1⟩) (fun hHeld2 => ?_)
              clear hK K hHeld
              have hHeld := hHeld2
              try simp only [Act.put, List.setIfInBounds_toArray, List.set_cons_zero, List.set_cons_succ]
              refine take_d (i := 11) (v := (.bool (!r))) (d := some 49) rfl (by kernel_rfl) (by kernel_rfl) (by kernel_rfl) (by kernel_rfl) (fun _ _ _ h => h) (Or.inl ⟨by kernel_rfl, fun w9 hw9 => by (go_simp)⟩) hHeld ?_
              try simp only [Act.put, List.setIfInBounds_toArray, List.set_cons_zero, List.set_cons_succ]
              refine wpAnyH_done (by kernel_rfl) ?_ _
              try simp only [Act.put, List.setIfInBounds_toArray, List.set_cons_zero, List.set_cons_succ]
              obtain ⟨z0, z1, -, -⟩ := hHeld
              have HB3 := Lib.hid (HBx.out.below HC2.out gl2)
              have HG3 := Lib.hid (grown_bel HGx.out HC2.out)
              have f2 := fun o => HB3.out.fz o
              clear x0 x1 y0 y1 HQ HBx HGx HC2 t5 hHeld2 gl2
              cases r
              · have HS3 := Lib.hid (HSt.out.next HA2.out HB2.out (by have := HR2.out; simpa using this) HK2.out)
                have gl3 := HB3.out.lt
                obtain ⟨u0, hu0⟩ : ∃ u, w2.cell? ⟨g, k' * 2, none⟩ = some u := ⟨_, by rw [HB3.out.cell, Array.getElem?_eq_getElem (by have := HK2.out; omega)]⟩
                obtain ⟨u1, hu1⟩ : ∃ u, w2.cell? ⟨g, k' * 2 + 1, none⟩ = some u := ⟨_, by rw [HB3.out.cell, Array.getElem?_eq_getElem (by have := HK2.out; omega)]⟩
                have f3 := f2 (k' * 2)
                have f4 := f2 (k' * 2 + 1)
                go_wp2_with fail
                go_roundw
                case rel => exact ⟨k' + 1, j' + 1, m + 1, _, by go_num, by go_num, HM2.out, by omega, hmn1, HS3.out, by rw [Array.size_setIfInBounds, Array.size_setIfInBounds]; exact HSz.out, (HB3.out.set _ _).set _ _, grown_set (grown_set HG3.out)⟩
                case measure => go_light; simp [intOf]; omega
              · have HS3 := Lib.hid (HSt.out.same HA2.out HB2.out (by have := HR2.out; simpa using this))
                go_wp2_with fail
                go_roundw
                case rel => exact ⟨k', j' + 1, m + 1, cur', by go_num, by go_num, HM2.out, by omega, hmn1, HS3.out, HSz.out, HB3.out, HG3.out⟩
                case measure => go_light; simp [intOf]; omega
            · have hmn' : m = n := by omega
              have hct := hS.len
              rw [hmn', List.take_of_length_le (by rw [HL.out]; omega)] at hct
              have HCt := Lib.hid hct
              have HPre := Lib.hid (show ∀ (i : Nat) z, (compX es)[i]? = some z → PtIn cur' i z from fun i z hz => by
                have := hS.pre i z
                rw [hmn', List.take_of_length_le (by rw [HL.out]; omega)] at this
                exact this hz)
              have t1 : ¬ (j' : Int) < (N1 : Int) := by omega
              have t6 : (0 : Int) ≤ (k' : Int) := by omega
              have t7 : (k' : Int) ≤ (n : Int) := by omega
              have t8 : ¬ cap = k' := by omega
              have t9 : k' ≤ cap := by omega
              have t10 : k' ≤ n := by omega
              have t11 : (k' : Int) ≤ (cap : Int) := by omega
              obtain ⟨Z, hZ, hcl⟩ := clear_points wr g (k' * 2) (n - k') (cap - k') (by omega) (fun j hj => by rw [hb'.cell, Array.getElem?_eq_getElem (by rw [hsz]; omega)]; rfl) (fun j hj => hb'.fz _)
              have HBz := Lib.hid (Blk.setCells Z (k' * 2) wr cur' hb')
              have HGz := Lib.hid (grown_sets Z (k' * 2) wr hG)
              have HSz := Lib.hid hsz
              clear hct hS hb' hG hm' hsz e1 e2 e3 hZ hmn'
              go_wp2_with fail
              refine bodyPost_ret (v := .slice (some ⟨g, 0, none⟩) k' cap) (by simp [results, Tryd.results29, go_sem]) rfl ?_
              exact ⟨_, by rw [HCt.out], HBz.out, by rw [putL_size]; exact HSz.out, fun i z hz => (HPre.out i z hz).putL (by have := (List.getElem?_eq_some_iff.1 hz).1; have := HCt.out; omega), HGz.out⟩
      · obtain rfl : k = n := by omega
        have HC2 := Lib.hid (show compX es = es by have := HC.out; rwa [List.take_of_length_le (by rw [HL.out]; omega)] at this)
        go_wp2_with fail
        refine bodyPost_ret (v := .slice (some ⟨g, 0, none⟩) k cap) (by simp [results, Tryd.results29, go_sem]) rfl ?_
        exact ⟨cur, by rw [HC2.out, HL.out], HBr.out, hs, by rw [HC2.out]; exact HP.out, ⟨HB.out.os, HB.out.tape, HB.out.output, HB.out.size, fun i hi _ => HB.out.block i hi⟩⟩
end Go.Proofs.YtdjkhagdckhijaaDoor
