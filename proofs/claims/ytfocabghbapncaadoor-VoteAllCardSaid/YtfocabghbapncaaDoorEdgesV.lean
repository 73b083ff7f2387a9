/- vote.edges, walked: where one more, or one less, has it, rising. -/
import Derived.Shelf.SlSortCmp.WholeK
import Derived.Shelf.SlLaysF0
import Derived.Test.YtfocabghbapncaaDoorSpansC
import Derived.Test.YtfocabghbapncaaDoorArr
namespace Go.Proofs.YtfocabghbapncaaDoor
open Go.RowKit Go.Shelf Go.Sort
set_option linter.unusedVariables false
set_option linter.unusedSimpArgs false
def sortEL_ren : Go.Shelf.Ren := ⟨fun | 6 => 40 | 15 => 47 | 14 => 46 | 28 => 57 | 29 => 58 | 20 => 49 | 21 => 50 | 22 => 51 | 23 => 52 | 24 => 53 | 25 => 54 | 26 => 55 | 27 => 56 | 46 => 59 | 47 => 60 | 48 => 61 | 49 => 62 | 50 => 63 | 57 => 64 | n => n, fun | 22 => 59 | 24 => 62 | 25 => 78 | 3 => 3 | 39 => 95 | 0 => 0 | 53 => 105 | 55 => 107 | 4 => 4 | 46 => 98 | 45 => 97 | 50 => 102 | 5 => 5 | 9 => 9 | 66 => 108 | 70 => 112 | 76 => 114 | 77 => 115 | n => n, fun | n => n⟩
theorem sortEL : Go.Proofs.SlLaysF0.n6 Tryd.prog sortEL_ren := {
  mixed := by kernel_rfl
  f6 := ⟨Tryd.f40.name, by decide, Tryd.func40.trans (congrArg some (by kernel_rfl))⟩
  f14 := ⟨Tryd.f46.name, by decide, Tryd.func46.trans (congrArg some (by kernel_rfl))⟩
  f15 := Tryd.func47.trans (congrArg some (by kernel_rfl))
  f20 := ⟨Tryd.f49.name, by decide, Tryd.func49.trans (congrArg some (by kernel_rfl))⟩
  f21 := ⟨Tryd.f50.name, by decide, Tryd.func50.trans (congrArg some (by kernel_rfl))⟩
  f22 := ⟨Tryd.f51.name, by decide, Tryd.func51.trans (congrArg some (by kernel_rfl))⟩
  f23 := ⟨Tryd.f52.name, by decide, Tryd.func52.trans (congrArg some (by kernel_rfl))⟩
  f24 := ⟨Tryd.f53.name, by decide, Tryd.func53.trans (congrArg some (by kernel_rfl))⟩
  f25 := ⟨Tryd.f54.name, by decide, Tryd.func54.trans (congrArg some (by kernel_rfl))⟩
  f26 := ⟨Tryd.f55.name, by decide, Tryd.func55.trans (congrArg some (by kernel_rfl))⟩
  f27 := ⟨Tryd.f56.name, by decide, Tryd.func56.trans (congrArg some (by kernel_rfl))⟩
  f28 := Tryd.func57.trans (congrArg some (by kernel_rfl))
  f29 := Tryd.func58.trans (congrArg some (by kernel_rfl))
  f46 := ⟨Tryd.f59.name, by decide, Tryd.func59.trans (congrArg some (by kernel_rfl))⟩
  f47 := Tryd.func60.trans (congrArg some (by kernel_rfl))
  f48 := Tryd.func61.trans (congrArg some (by kernel_rfl))
  f49 := ⟨Tryd.f62.name, by decide, Tryd.func62.trans (congrArg some (by kernel_rfl))⟩
  f50 := ⟨Tryd.f63.name, by decide, Tryd.func63.trans (congrArg some (by kernel_rfl))⟩
  f57 := ⟨Tryd.f64.name, by decide, Tryd.func64.trans (congrArg some (by kernel_rfl))⟩
  t0 := Tryd.underlying0
  a0 := Tryd.isAgg0
  z0 := Tryd.sizeOf0
  v0 := Tryd.zeroValue0
  t3 := Tryd.underlying3
  a3 := Tryd.isAgg3
  z3 := Tryd.sizeOf3
  v3 := Tryd.zeroValue3
  t4 := Tryd.underlying4
  a4 := Tryd.isAgg4
  z4 := Tryd.sizeOf4
  v4 := Tryd.zeroValue4
  t5 := Tryd.underlying5
  a5 := Tryd.isAgg5
  z5 := Tryd.sizeOf5
  v5 := Tryd.zeroValue5
  t9 := Tryd.underlying9
  a9 := Tryd.isAgg9
  z9 := Tryd.sizeOf9
  v9 := Tryd.zeroValue9
  t22 := Tryd.underlying59
  a22 := Tryd.isAgg59
  z22 := Tryd.sizeOf59
  v22 := Tryd.zeroValue59
  t25 := Tryd.underlying78
  a25 := Tryd.isAgg78
  z25 := Tryd.sizeOf78
  v25 := Tryd.zeroValue78
  t39 := Tryd.underlying95
  a39 := Tryd.isAgg95
  z39 := Tryd.sizeOf95
  v39 := Tryd.zeroValue95
  t45 := Tryd.underlying97
  a45 := Tryd.isAgg97
  z45 := Tryd.sizeOf97
  v45 := Tryd.zeroValue97
  t46 := Tryd.underlying98
  a46 := Tryd.isAgg98
  z46 := Tryd.sizeOf98
  v46 := Tryd.zeroValue98
  t50 := Tryd.underlying102
  a50 := Tryd.isAgg102
  z50 := Tryd.sizeOf102
  v50 := Tryd.zeroValue102
  t53 := Tryd.underlying105
  a53 := Tryd.isAgg105
  z53 := Tryd.sizeOf105
  v53 := Tryd.zeroValue105
  t55 := Tryd.underlying107
  a55 := Tryd.isAgg107
  z55 := Tryd.sizeOf107
  v55 := Tryd.zeroValue107
  t66 := Tryd.underlying108
  a66 := Tryd.isAgg108
  z66 := Tryd.sizeOf108
  v66 := Tryd.zeroValue108
  t70 := Tryd.underlying112
  a70 := Tryd.isAgg112
  z70 := Tryd.sizeOf112
  v70 := Tryd.zeroValue112
  t76 := Tryd.underlying114
  a76 := Tryd.isAgg114
  z76 := Tryd.sizeOf114
  v76 := Tryd.zeroValue114
  t77 := Tryd.underlying115
  a77 := Tryd.isAgg115
  z77 := Tryd.sizeOf115
  v77 := Tryd.zeroValue115 }

instance : Inhabited RSpan := ⟨⟨0, 0⟩⟩
/-- the order of edges: by where they are. -/
def atLt (x y : RSpan) : Int := Lib.compareInt x.lo y.lo
theorem atLt_iff (x y : RSpan) : Go.Proofs.ltOf atLt x y = decide (x.lo < y.lo) := by
  unfold Go.Proofs.ltOf atLt Lib.compareInt
  by_cases h : x.lo < y.lo
  · simp [h]
  · by_cases h2 : x.lo > y.lo <;> simp [h, h2]
theorem at_swo : SWO (Go.Proofs.ltOf atLt) := by
  refine ⟨fun x => ?_, fun x y z h1 h2 => ?_, fun x y z h1 h2 => ?_⟩
  · rw [atLt_iff]; simp
  · rw [atLt_iff, decide_eq_true_eq] at *; omega
  · rw [atLt_iff, decide_eq_false_iff_not] at *; omega
theorem cmp_int (x y : Int) (w : World) :
    Calls Tryd.prog 42 #[.int .i64 x, .int .i64 y] w fun e w' => e = .returned (.int .i64 (Lib.compareInt x y)) ∧ w = w' := by
  rcases (by omega : x < y ∨ (¬ x < y ∧ y < x) ∨ x = y) with h | ⟨h, h'⟩ | h
  · have hc := Lib.hid (show Lib.compareInt x y = -1 by unfold Lib.compareInt; rw [if_pos h])
    go_enter Tryd.func42, Tryd.ntmps42
    go_wp2
    go_ret
    exact ⟨by rw [hc.out]; (try rfl), rfl⟩
  · have hc := Lib.hid (show Lib.compareInt x y = 1 by unfold Lib.compareInt; rw [if_neg h, if_pos h'])
    go_enter Tryd.func42, Tryd.ntmps42
    go_wp2
    go_ret
    exact ⟨by rw [hc.out]; (try rfl), rfl⟩
  · subst h
    have hc := Lib.hid (show Lib.compareInt x x = 0 by unfold Lib.compareInt; simp)
    go_enter Tryd.func42, Tryd.ntmps42
    go_wp2
    go_ret
    exact ⟨by rw [hc.out]; (try rfl), rfl⟩
theorem edges_1 (x y : RSpan) (W : World) : Calls Tryd.prog 41 #[.agg #[.int .i64 x.lo, .int .i64 x.hi], .agg #[.int .i64 y.lo, .int .i64 y.hi]] W fun e w' => e = .returned (.int .i64 (atLt x y)) ∧ ∃ q os', w' = grow (W.drewN q) os' := by
  have hcon := fun W' => cmp_int x.lo y.lo W'
  unfold atLt
  generalize Lib.compareInt x.lo y.lo = r at hcon ⊢
  have HC := Lib.hid hcon
  clear hcon
  go_enter Tryd.func41, Tryd.ntmps41
  go_wp2_with fail
  refine (HC.out _).mono ?_
  rintro e w' ⟨rfl, rfl⟩
  go_wp2_with fail
  go_ret
  exact ⟨rfl, 0, _, by rw [alloc_eq_grow, alloc_eq_grow, grow_grow]; rfl⟩
theorem edges_lays (blk off size : Nat) (w : World) : CmpLays Tryd.prog 41 #[] RSpan.cells 2 atLt blk off size w :=
  fun _ _ _ _ x y => edges_1 x y _
theorem perm_all {d d' : Array RSpan} (h : PermIn 0 d.size d d') : d'.toList.Perm d.toList := by
  obtain ⟨h1, _, h3⟩ := h
  have e1 : d'.extract 0 d.size = d' := by rw [← h1]; exact Array.extract_size
  have e2 : d.extract 0 d.size = d := Array.extract_size
  rwa [e1, e2] at h3
theorem sorted_all {d : Array RSpan} (h : SortedIn (Go.Proofs.ltOf atLt) 0 d.size d) : d.toList.Pairwise (fun x y => x.lo ≤ y.lo) := by
  rw [List.pairwise_iff_getElem]
  intro i j hi hj hij
  have hi' : i < d.size := by simpa using hi
  have hj' : j < d.size := by simpa using hj
  have := h i j (Nat.zero_le _) hij hj'
  rw [atLt_iff, decide_eq_false_iff_not, getElem!_pos d j hj', getElem!_pos d i hi'] at this
  simp only [Array.getElem_toList]
  omega
theorem sort_edges (zs : List RSpan) (g cap : Nat) (W : World) (hH : HoldsK RSpan.cells 2 W g 0 zs.toArray) (hg : g < W.heap.size) (hsz : zs.length < 4611686018427387904) :
    Calls Tryd.prog 40 #[.slice (some ⟨g, 0, none⟩) zs.length cap, .func (.func 41) #[] #[]] W fun e w' =>
      e = .returned (.tuple #[]) ∧ ∃ es : List RSpan, es.Perm zs ∧ es.Pairwise (fun x y => x.lo ≤ y.lo) ∧ (∀ i z, es[i]? = some z → w'.cell? ⟨g, i * 2, none⟩ = some (.int .i64 z.lo) ∧ w'.cell? ⟨g, i * 2 + 1, none⟩ = some (.int .i64 z.hi)) ∧ W.grownBy w' (some g) := by
  have eg : ∀ args w, (callFunc 41 args).run Tryd.prog w = .ok (.enter 41 args) w := enters_of Tryd.func41 (by kernel_rfl) rfl
  have hcon := AnyQ.slices_SortFunc sortEL 2 Tryd.isAgg62 Tryd.sizeOf62 RSpan.cells (fun _ => rfl) (fun x v hv => by simp [RSpan.cells] at hv; rcases hv with rfl | rfl <;> rfl) atLt at_swo 41 #[] g 0 cap zs.toArray W eg (edges_lays g 0 _ W) hH hg (by simpa using hsz)
  have h2 : Calls Tryd.prog 40 #[.slice (some ⟨g, 0, none⟩) zs.length cap, .func (.func 41) #[] #[]] W _ := hcon
  refine h2.mono ?_
  rintro e w' ⟨rfl, d', n, os, hp, hs, rfl⟩
  have hsd : d'.size = zs.toArray.size := hp.1
  have hh := holdsK_sortWorldK RSpan.cells 2 W g 0 n zs.toArray d' os hg hH hsd
  refine ⟨rfl, d'.toList, by simpa using perm_all hp, sorted_all (by rw [hsd]; exact hs), fun i z hz => ?_, ?_⟩
  · have hi : i < d'.size := by have := (List.getElem?_eq_some_iff.1 hz).1; simpa using this
    have hz2 : d'[i]! = z := by
      rw [getElem!_pos d' i hi]
      have := (List.getElem?_eq_some_iff.1 hz).2
      simpa using this
    have c0 := (hh.cell hi (c := 0) (by omega)).1
    have c1 := (hh.cell hi (c := 1) (by omega)).1
    rw [hz2] at c0 c1
    exact ⟨by simpa [RSpan.cells] using c0, by simpa [RSpan.cells] using c1⟩
  · unfold sortWorldK putRowK
    refine ⟨rfl, rfl, rfl, by simp, fun k hk hne => ?_⟩
    rw [heap_grow_old _ _ (by simpa using hk)]
    have : g ≠ k := fun e => hne (by rw [e])
    simp [putRow, mapBlock, Sort.ahead, Array.getElem?_modify, this]
def edgesOf (z : RSpan) : List RSpan := [⟨z.lo, 1⟩, ⟨z.hi + 1, -1⟩]
def edgesL (zs : List RSpan) : List RSpan := zs.flatMap edgesOf
theorem edgesL_snoc {zs : List RSpan} {k : Nat} {z : RSpan} (h : zs[k]? = some z) : edgesL (zs.take (k + 1)) = edgesL (zs.take k) ++ [⟨z.lo, 1⟩, ⟨z.hi + 1, -1⟩] := by
  unfold edgesL
  rw [List.take_add_one, h]; simp [edgesOf]
theorem edgesL_len (zs : List RSpan) : (edgesL zs).length = zs.length * 2 := by
  induction zs with
  | nil => rfl
  | cons z zs ih => show (edgesOf z ++ edgesL zs).length = _; rw [List.length_append, ih, List.length_cons]; show 2 + _ = _; omega
theorem edgesL_ok {zs : List RSpan} (h : ∀ x ∈ zs, spB x = true) : ∀ y ∈ edgesL zs, RSpan.ok y := by
  intro y hy
  obtain ⟨z, hz, hy⟩ := List.mem_flatMap.1 hy
  have := rightB_iff.1 (h z hz)
  simp only [edgesOf, List.mem_cons, List.not_mem_nil, or_false] at hy
  rcases hy with rfl | rfl <;> (unfold RSpan.ok i64B; simp only []; omega)
theorem infoV : (Tryd.prog.info? 62).map (fun i => (i.zero, i.size, i.bytes)) = some (some (.agg #[.int .i64 0, .int .i64 0]), 2, 16) := by kernel_rfl
theorem span_one (z : RSpan) : ∀ u ∈ RSpan.cells z, u.oneCell' = true := by intro u hu; simp [RSpan.cells] at hu; rcases hu with rfl | rfl <;> rfl
theorem two_one (x y : RSpan) : ∀ u ∈ RSpan.cells x ++ RSpan.cells y, u.oneCell' = true := by
  intro u hu
  rcases List.mem_append.1 hu with h | h
  · exact span_one x u h
  · exact span_one y u h
theorem own_holdsK {W : World} {g : Nat} {cur : Array Value} {T : TypeId} {zs : List RSpan} (hb : W.heap[g]? = some (.cells cur T (0, 0))) (hx : cur.toList.take (zs.length * 2) = zs.flatMap RSpan.cells) : HoldsK RSpan.cells 2 W g 0 zs.toArray := by
  intro t ht
  have ht' : t < zs.length * 2 := by simpa using ht
  have hi : t / 2 < zs.length := by omega
  refine ⟨?_, by simp [World.frozen?, hb]⟩
  have hz : zs[t / 2]? = some (zs.toArray[t / 2]!) := by
    rw [getElem!_pos zs.toArray (t / 2) (by simpa using hi)]
    simp [hi]
  obtain ⟨z, hzz⟩ : ∃ z, zs.toArray[t / 2]! = z := ⟨_, rfl⟩
  rw [hzz] at hz
  have hc : (RSpan.cells z)[t % 2]? = some ((RSpan.cells z)[t % 2]!) := by
    have h2 : t % 2 < (RSpan.cells z).length := by show t % 2 < 2; omega
    rw [getElem!_pos (RSpan.cells z) (t % 2) h2, List.getElem?_eq_getElem h2]
  have hf := flat_get RSpan.cells 2 (fun _ => rfl) zs (t / 2) (t % 2) z _ hz hc
  rw [show t / 2 * 2 + t % 2 = t by omega, ← hx, List.getElem?_take_of_lt ht'] at hf
  rw [get_flatK RSpan.cells 2 zs.toArray t (by simpa using ht'), hzz]
  simp only [World.cell?, hb, Nat.zero_add]
  simp only [Option.isSome_none, Bool.false_eq_true, if_false]
  rw [← Array.getElem?_toList, hf]
  rfl
set_option maxRecDepth 100000 in
set_option maxHeartbeats 4000000 in
theorem vote_edges (A : Option Addr) (n c : Nat) (zs : List RSpan) (w : World) (h : IsRecs w RSpan.cells RSpan.ok 2 A n c zs) (hr : ∀ x ∈ zs, spB x = true) (h0 : 0 < n) (h40 : n ≤ 40) :
    Calls Tryd.prog 33 #[.slice A n c] w fun e w' => ∃ g cap es, e = .returned (.slice (some ⟨g, 0, none⟩) (n * 2) cap) ∧ IsRecs w' RSpan.cells RSpan.ok 2 (some ⟨g, 0, none⟩) (n * 2) cap es ∧ es.Perm (edgesL zs) ∧ es.Pairwise (fun x y => x.lo ≤ y.lo) ∧ w.heap.size ≤ g ∧ Below w.heap.size w w' := by
  obtain ⟨i0, hi, hz0, hz1, hz2⟩ := info_parts infoV
  obtain ⟨l1, l2, l3, l4, l5⟩ := h
  unfold maxLen at l3
  have L1 := Lib.hid l1
  have L5 := Lib.hid l5
  have P3 := Lib.hid hr
  clear l1 l4 l5 hr
  go_enter Tryd.func33, Tryd.ntmps33
  go_wp2_with fail
  go_loopw [3, 8] (fun ov kv wr => ∃ (k : Nat) (ys : List RSpan), kv = .int .i64 k ∧ k ≤ n ∧ ys = edgesL (zs.take k) ∧ ys.length = k * 2 ∧ wr.ownsRow w.heap.size 62 2 ov ys.length (ys.flatMap RSpan.cells) ∧ Below w.heap.size w wr) (fun _ kv _ => n - (intOf kv).toNat)
  case atStart => exact ⟨0, [], rfl, by omega, rfl, rfl, own_nil _ _ _ _, Below.refl _ _⟩
  case round =>
    obtain ⟨k, ys, rfl, hk, hys, hlen, ho, hB⟩ := hrel
    have HO := Lib.hid ho
    have HB := Lib.hid hB
    have HY := Lib.hid hys
    have hzw := hB.size
    clear ho hys
    by_cases d1 : k < n
    · obtain ⟨b, off, rfl, hb, hc⟩ := L5.out (by omega)
      obtain ⟨z, hz⟩ : ∃ z, zs[k]? = some z := ⟨_, List.getElem?_eq_getElem (by rw [L1.out]; omega)⟩
      have x0 : wr.cell? ⟨b, off + k * 2, none⟩ = some (.int .i64 z.lo) := (hB.cell (p := ⟨b, off + k * 2, none⟩) hb).trans (hc k z hz 0 _ rfl)
      have x1 : wr.cell? ⟨b, off + k * 2 + 1, none⟩ = some (.int .i64 z.hi) := (hB.cell (p := ⟨b, off + k * 2 + 1, none⟩) hb).trans (hc k z hz 1 _ rfl)
      have HY2 := Lib.hid (edgesL_snoc hz)
      have hr := rightB_iff.1 (P3.out z (List.mem_of_getElem? hz))
      have hw1 := IntWalk.i64_in (z.hi + 1) (by omega)
      have HLn := Lib.hid (show (ys ++ [(⟨z.lo, 1⟩ : RSpan), ⟨z.hi + 1, -1⟩]).length = (k + 1) * 2 by rw [List.length_append, hlen]; show _ + 2 = _; omega)
      have B2 := Lib.hid (show ys.length + 2 ≤ maxLen by unfold maxLen; omega)
      have B3 := Lib.hid (show (ys.length + 2) * 16 ≤ 140737488355328 by omega)
      have HK := Lib.hid (show k + 1 ≤ n by omega)
      have HM := Lib.hid (show n - (k + 1) < n - k by omega)
      clear hc hz hB hr
      go_wp2_with (at_builtin; refine wpList_append_own _ rfl _ _ 59 rfl w.heap.size 62 i0 (.agg #[.int .i64 0, .int .i64 0]) 2 16 Tryd.underlying59 hi hz0 hz1 hz2 rfl (by decide) _ _ _ rfl ((HO.out.alloc _).alloc _) ⟨wr.heap.size + 1, 0, none⟩ 2 2 _ rfl rfl (cell_newAt (wr.alloc _) (RSpan.cells ⟨z.lo, 1⟩ ++ RSpan.cells ⟨z.hi + 1, -1⟩) _ _ (by simp)) (two_one _ _) B2.out B3.out (by simp; omega) ?_; intro v' w1 ho1 hg1 _)
      have HB2 := Lib.hid (show Below w.heap.size w w1 from ((HB.out.alloc (by omega) _).alloc (by simp; omega) _).grown hg1 (by simp; omega) (fun k hk => (HO.out.lt k hk).1))
      have HO2 := Lib.hid (show w1.ownsRow w.heap.size 62 2 v' (ys ++ [(⟨z.lo, 1⟩ : RSpan), ⟨z.hi + 1, -1⟩]).length ((ys ++ [(⟨z.lo, 1⟩ : RSpan), ⟨z.hi + 1, -1⟩]).flatMap RSpan.cells) from by simpa [RSpan.cells] using ho1)
      clear ho1 hg1 hw1 x0 x1
      go_wp2_with fail
      go_roundw
      case rel => exact ⟨k + 1, ys ++ [⟨z.lo, 1⟩, ⟨z.hi + 1, -1⟩], by go_num, HK.out, by rw [HY2.out, HY.out], HLn.out, HO2.out, HB2.out⟩
      case measure => simp [intOf]; omega
    · obtain rfl : k = n := by omega
      have hy : ys = edgesL zs := by rw [HY.out, List.take_of_length_le (by rw [L1.out]; omega)]
      subst hy
      have hok := Lib.hid (edgesL_ok P3.out)
      have hown := HO.out
      rw [hlen] at hown
      rcases hown.2 with ⟨_, h⟩ | ⟨g, cap, cur, rfl, hbb, hg, r1, r2, r3, r4⟩
      · omega
      · have hgl : g < wr.heap.size := (Array.getElem?_eq_some_iff.1 hg).1
        have C := sort_edges (edgesL zs) g cap wr (own_holdsK hg (by rw [hlen]; exact r4)) hgl (by omega)
        rw [hlen] at C
        have HC := Lib.hid C
        have HL := Lib.hid hlen
        clear C hown hg r4 HO hB hlen HY
        go_wp2_with fail
        refine HC.out.mono ?_
        rintro e w' ⟨rfl, es, hp, hs, hcell, hgr⟩
        have hle : es.length = k * 2 := by rw [hp.length_eq, HL.out]
        have HR := Lib.hid (show IsRecs w' RSpan.cells RSpan.ok 2 (some ⟨g, 0, none⟩) (k * 2) cap es from ⟨hle, r1, r2, fun y hy => hok.out y (hp.mem_iff.1 hy), fun _ => ⟨g, 0, rfl, Nat.lt_of_lt_of_le hgl hgr.size, fun i y hy j u hu => by
          obtain ⟨c0, c1⟩ := hcell i y hy
          match j, hu with
          | 0, hu => simp [RSpan.cells] at hu; subst hu; simpa using c0
          | 1, hu => simp [RSpan.cells] at hu; subst hu; simpa using c1
          | j + 2, hu => simp [RSpan.cells] at hu⟩⟩)
        have HB2 := Lib.hid (show Below w.heap.size w w' from HB.out.grown hgr hzw (fun j hj => by cases hj; exact hbb))
        have HP := Lib.hid hp
        have HS := Lib.hid hs
        clear hp hs hcell hgr HC
        go_wp2_with fail
        go_ret
        exact ⟨g, cap, es, rfl, HR.out, HP.out, HS.out, hbb, HB2.out⟩
end Go.Proofs.YtfocabghbapncaaDoor
