/- vote.walk, walked: over the stretches that are in as many spans, to a function value. -/
import Derived.Test.YtfocabghbapncaaDoorEdgesV
import Derived.Deep.DeepCutAuto
import Derived.Deep.CutBlock
import Derived.StillTailTactics
import Derived.Deep.Light
namespace Go.Proofs.YtfocabghbapncaaDoor
open Go.RowKit Go.Shelf
set_option linter.unusedVariables false
set_option linter.unusedSimpArgs false
/-- how many more have it, of the first k edges. -/
def manyA (es : List RSpan) : Nat → Int
  | 0 => 0
  | k + 1 => manyA es k + (es.getD k default).hi
/-- the stretches among the first k + 1 edges. -/
def segsA (es : List RSpan) : Nat → List (Int × Int × Int)
  | 0 => []
  | k + 1 => if (es.getD k default).lo < (es.getD (k + 1) default).lo then segsA es k ++ [((es.getD k default).lo, (es.getD (k + 1) default).lo, manyA es (k + 1))] else segsA es k
def edgeOk (y : RSpan) : Prop := (y.hi = 1 ∨ y.hi = -1) ∧ -1000000000000 ≤ y.lo ∧ y.lo ≤ 1000000000001
theorem edgesL_range {zs : List RSpan} (h : ∀ x ∈ zs, spB x = true) : ∀ y ∈ edgesL zs, edgeOk y := by
  intro y hy
  obtain ⟨z, hz, hy⟩ := List.mem_flatMap.1 hy
  have := rightB_iff.1 (h z hz)
  simp only [edgesOf, List.mem_cons, List.not_mem_nil, or_false] at hy
  rcases hy with rfl | rfl
  · exact ⟨.inl rfl, by show -1000000000000 ≤ z.lo; omega, by show z.lo ≤ 1000000000001; omega⟩
  · exact ⟨.inr rfl, by show -1000000000000 ≤ z.hi + 1; omega, by show z.hi + 1 ≤ 1000000000001; omega⟩
theorem manyA_le {es : List RSpan} (h : ∀ y ∈ es, edgeOk y) : ∀ k, k ≤ es.length → -(k : Int) ≤ manyA es k ∧ manyA es k ≤ k
  | 0, _ => by simp [manyA]
  | k + 1, hk => by
    have h1 := manyA_le h k (by omega)
    have h2 := (h (es.getD k default) (by rw [List.getD_eq_getElem?_getD, List.getElem?_eq_getElem (by omega : k < es.length)]; exact List.getElem_mem _)).1
    unfold manyA
    omega
/-- what lies from block n on is as it was. -/
def Keeps (n : Nat) (W W' : World) : Prop := W.heap.size ≤ W'.heap.size ∧ ∀ b, n ≤ b → b < W.heap.size → W'.heap[b]? = W.heap[b]?
theorem Keeps.refl (n : Nat) (W : World) : Keeps n W W := ⟨Nat.le_refl _, fun _ _ _ => rfl⟩
theorem Keeps.trans {n : Nat} {A B C : World} (h : Keeps n A B) (g : Keeps n B C) : Keeps n A C := ⟨Nat.le_trans h.1 g.1, fun b h1 h2 => (g.2 b h1 (Nat.lt_of_lt_of_le h2 h.1)).trans (h.2 b h1 h2)⟩
theorem Keeps.cell {n : Nat} {A B : World} (h : Keeps n A B) {b o : Nat} (h1 : n ≤ b) (h2 : b < A.heap.size) : B.cell? ⟨b, o, none⟩ = A.cell? ⟨b, o, none⟩ := by
  simp [World.cell?, h.2 b h1 h2]
theorem Keeps.drewN {n : Nat} {A B : World} (h : Keeps n A B) (q : Nat) : Keeps n A (B.drewN q) := h
set_option maxRecDepth 100000 in
set_option maxHeartbeats 8000000 in
theorem vote_walk (g : FuncId) (lb : Array Value) (eg : ∀ args w, (callFunc g args).run Tryd.prog w = .ok (.enter g args) w) (J : List (Int × Int × Int) → World → Prop)
    (A : Option Addr) (n c : Nat) (zs : List RSpan) (w : World) (h : IsRecs w RSpan.cells RSpan.ok 2 A n c zs) (hr : ∀ x ∈ zs, spB x = true) (h0 : 0 < n) (h40 : n ≤ 40)
    (hJ : ∀ s W W', J s W → w.heap.size ≤ W.heap.size → Below w.heap.size W W' → J s W')
    (hsee : ∀ s (f t m : Int) W, J s W → w.heap.size ≤ W.heap.size → -1000000000000 ≤ f → f < t → t ≤ 1000000000001 → -80 ≤ m → m ≤ 80 →
      Calls Tryd.prog g (#[.int .i64 f, .int .i64 t, .int .i64 m] ++ lb) W fun e W' => e = .returned (.tuple #[]) ∧ J (s ++ [(f, t, m)]) W' ∧ Keeps w.heap.size W W')
    (hJ0 : J [] w) :
    Calls Tryd.prog 25 #[.slice A n c, .func (.func g) #[] lb] w fun e w' => ∃ es : List RSpan, e = .returned (.tuple #[]) ∧ es.Perm (edgesL zs) ∧ es.Pairwise (fun x y => x.lo ≤ y.lo) ∧ J (segsA es (n * 2 - 1)) w' ∧ w.heap.size ≤ w'.heap.size := by
  have C := Lib.hid (vote_edges A n c zs w h hr h0 h40)
  have HR := Lib.hid (edgesL_range hr)
  have hl := h.1
  have HL := Lib.hid hl
  have HJ := Lib.hid hJ
  have HS := Lib.hid hsee
  have HJ0 := Lib.hid hJ0
  clear h hr hl hJ hsee hJ0
  go_enter Tryd.func25, Tryd.ntmps25
  go_wp2_with fail
  refine C.out.mono ?_
  rintro e w1 ⟨gb, cap, es, rfl, hI, hp, hs, hgb, hB⟩
  obtain ⟨i1, i2, i3, i4, i5⟩ := hI
  unfold maxLen at i3
  obtain ⟨b', off', e, hb1, hc⟩ := i5 (by omega)
  obtain ⟨rfl, rfl⟩ : gb = b' ∧ 0 = off' := by simp only [Option.some.injEq, Addr.mk.injEq] at e; exact ⟨e.1, e.2.1⟩
  have HP := Lib.hid hp
  have HO := Lib.hid hs
  have HE := Lib.hid (show ∀ y ∈ es, edgeOk y from fun y hy => HR.out y (hp.mem_iff.1 hy))
  have HI := Lib.hid i1
  have HC := Lib.hid (show ∀ wr, Keeps w.heap.size w1 wr → ∀ k z, es[k]? = some z → wr.cell? ⟨gb, k * 2, none⟩ = some (.int .i64 z.lo) ∧ wr.cell? ⟨gb, k * 2 + 1, none⟩ = some (.int .i64 z.hi) from fun wr hk k z hz => by
    have c0 := hc k z hz 0 _ rfl
    have c1 := hc k z hz 1 _ rfl
    exact ⟨(hk.cell hgb hb1).trans (by simpa using c0), (hk.cell hgb hb1).trans (by simpa using c1)⟩)
  have HB := Lib.hid hB
  have HJ1 := Lib.hid (HJ.out [] w w1 HJ0.out (Nat.le_refl _) hB)
  have hz1 := hB.size
  clear i1 i4 i5 hc e hp hs hB HJ0
  go_wp2_with fail
  go_loopw [5, 6] (fun mv kv wr => ∃ k : Nat, kv = .int .i64 k ∧ mv = .int .i64 (manyA es k) ∧ k ≤ n * 2 - 1 ∧ J (segsA es k) wr ∧ Keeps w.heap.size w1 wr) (fun _ kv _ => n * 2 - (intOf kv).toNat)
  case atStart => exact ⟨0, rfl, rfl, by omega, HJ1.out, Keeps.refl _ _⟩
  case round =>
    obtain ⟨k, rfl, rfl, hk, hj, hkp⟩ := hrel
    have HJk := Lib.hid hj
    have HKp := Lib.hid hkp
    have hzr := hkp.1
    clear hj hkp HJ1
    have s1 : ((n * 2 : Nat) : Int) - 1 = ((n * 2 - 1 : Nat) : Int) := by omega
    by_cases d1 : k < n * 2 - 1
    · obtain ⟨z, hz⟩ : ∃ z, es[k]? = some z := ⟨_, List.getElem?_eq_getElem (by rw [HI.out]; omega)⟩
      obtain ⟨y, hy⟩ : ∃ y, es[k + 1]? = some y := ⟨_, List.getElem?_eq_getElem (by rw [HI.out]; omega)⟩
      obtain ⟨x0, x1⟩ := HC.out wr HKp.out k z hz
      obtain ⟨y0, _⟩ := HC.out wr HKp.out (k + 1) y hy
      have HX0 := Lib.hid (fun w' (hk : Keeps w.heap.size w1 w') => (HC.out w' hk k z hz).1)
      have HY0 := Lib.hid (fun w' (hk : Keeps w.heap.size w1 w') => (HC.out w' hk (k + 1) y hy).1)
      have bz := HE.out z (List.mem_of_getElem? hz)
      have by_ := HE.out y (List.mem_of_getElem? hy)
      have gz : es.getD k default = z := by rw [List.getD_eq_getElem?_getD, hz]; rfl
      have gy : es.getD (k + 1) default = y := by rw [List.getD_eq_getElem?_getD, hy]; rfl
      have mb := manyA_le HE.out (k + 1) (by rw [HI.out]; omega)
      have em : manyA es (k + 1) = manyA es k + z.hi := by show manyA es k + (es.getD k default).hi = _; rw [gz]
      rw [em] at mb
      have HEm := Lib.hid em
      have HSg := Lib.hid (show segsA es (k + 1) = if z.lo < y.lo then segsA es k ++ [(z.lo, y.lo, manyA es k + z.hi)] else segsA es k from by
        show (if (es.getD k default).lo < (es.getD (k + 1) default).lo then segsA es k ++ [((es.getD k default).lo, (es.getD (k + 1) default).lo, manyA es (k + 1))] else segsA es k) = _
        rw [gz, gy, em])
      obtain ⟨M, hM⟩ : ∃ M, manyA es k = M := ⟨_, rfl⟩
      rw [hM] at mb HEm HSg
      rw [hM]
      unfold edgeOk at bz by_
      have mb2 : -80 ≤ M + z.hi ∧ M + z.hi ≤ 80 := by omega
      have hw := IntWalk.i64_in (M + z.hi) (by omega)
      have k0 : (0 : Int) ≤ (k : Int) := by omega
      have k1 : (k : Int) < ((n * 2 : Nat) : Int) := by omega
      have k2 : (0 : Int) ≤ ((k + 1 : Nat) : Int) := by omega
      have k3 : ((k + 1 : Nat) : Int) < ((n * 2 : Nat) : Int) := by omega
      clear hz hy gz gy em hM mb
      go_wp2_with fail
      go_quiet (fail)
      have HJd := Lib.hid (HJ.out _ _ _ HJk.out (by omega) (show Below w.heap.size wr (wr.drewN nq) from below_drewN (Below.refl _ _) nq))
      have HKd := Lib.hid (HKp.out.drewN nq)
      have hzd : wr.heap.size ≤ (wr.drewN nq).heap.size := by simp
      generalize wr.drewN nq = w3 at HJd HKd hzd ⊢
      have HKM := Lib.hid (show k + 1 ≤ n * 2 - 1 by omega)
      have HMe := Lib.hid (show n * 2 - (k + 1) < n * 2 - k by omega)
      by_cases dlt : z.lo < y.lo
      · rw [if_pos dlt] at HSg
        have hs3 : w.heap.size ≤ w3.heap.size := by omega
        have x3 := HX0.out w3 HKd.out
        have y3 := HY0.out w3 HKd.out
        have HC4 := Lib.hid (HS.out (segsA es k) z.lo y.lo (M + z.hi) w3.drew (HJ.out _ _ _ HJd.out hs3 (show Below w.heap.size w3 w3.drew from (Below.refl _ w3).drew)) hs3 bz.2.1 dlt by_.2.2 mb2.1 mb2.2)
        have HK4 := Lib.hid (show Keeps w.heap.size w1 w3.drew from HKd.out)
        clear x0 x1 y0 HS HJ HX0 HY0 HC
        as_aux_lemma =>
          go_wp2_with fail
          have kn : k < n * 2 := by omega
          obtain ⟨K1, hK1⟩ : ∃ K1, K1 = k + 1 := ⟨_, rfl⟩
          have e1 : (k : Int) + 1 = (K1 : Int) := by omega
          have kn2 : K1 < n * 2 := by omega
          have kw : IntKind.i64.wrap (K1 : Int) = (K1 : Int) := IntWalk.i64_in _ (by omega)
          have ki : (k : Int) < (n : Int) * 2 := by omega
          have ki2 : (K1 : Int) < (n : Int) * 2 := by omega
          rw [← hK1] at y3
          have HK1 := Lib.hid hK1
          clear hK1
          have kc : (n * 2 : Nat) ≤ cap := i2
          go_still_tail 13, (by kernel_rfl)
          change wpList _ _ _ _ _ w3.drew
          go_wp2_with (go_at_fn g; refine HC4.out.mono ?_; rintro e w4 ⟨rfl, hj4, hk4⟩)
          have HJ4 := Lib.hid hj4
          have hK1 := HK1.out
          subst hK1
          have HK5 := Lib.hid (HK4.out.trans hk4)
          clear hj4 hk4
          go_wp2_with fail
          go_roundw
          case rel => exact ⟨k + 1, by go_num, by rw [HEm.out], HKM.out, by rw [HSg.out]; exact HJ4.out, HK5.out⟩
          case measure => go_light; simp [intOf]; omega
      · rw [if_neg dlt] at HSg
        as_aux_lemma =>
          clear hw x0 x1 y0
          go_wp2_with fail
          go_roundw
          case rel => exact ⟨k + 1, by go_num, by rw [HEm.out], HKM.out, by rw [HSg.out]; exact HJd.out, HKd.out⟩
          case measure => go_light; simp [intOf]; omega
    · obtain rfl : k = n * 2 - 1 := by omega
      clear HC HS HJ
      go_wp2_with fail
      go_end0
      exact ⟨es, rfl, HP.out, HO.out, HJk.out, by omega⟩
end Go.Proofs.YtfocabghbapncaaDoor
