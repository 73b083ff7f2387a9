/- slices.Sorted(slices.Values(l)), for a slice of integers: a new slice of the same numbers, rising. -/
import Derived.RangeFuncBox
import Derived.RangeFuncLeaves
import Derived.RangeFuncBound
import Derived.OwnWalkIn
import Derived.TacticsInMore
import Derived.LoopNIn
import Derived.LoopIn
import Derived.Shelf.SlIterI.Collect
import Derived.Shelf.SortM.Plain
import Derived.Sort.OwnSorted
import Derived.Test.YtfjpfkejajgkbaaHStatP
import Derived.Test.YtfjpfkejajgkbaaHG1
import Derived.Shelf.SlLaysZI
import Derived.Shelf.SlLaysM
namespace Go.Proofs.Ytfjpfkejajgkbaa
open Go.RowKit Go.Maps Go.Sort Go.Shelf
set_option linter.unusedVariables false
set_option linter.unusedSimpArgs false
def apL_ren : Go.Shelf.Ren := ⟨fun | 11 => 67 | n => n, fun | 24 => 22 | 26 => 3 | 28 => 123 | 0 => 0 | 33 => 94 | 4 => 4 | n => n, fun | n => n⟩
theorem apL : Go.Proofs.SlLaysZI.n11 Try.prog apL_ren := {
  mixed := by kernel_rfl
  f11 := ⟨Try.f67.name, by decide, Try.func67.trans (congrArg some (by kernel_rfl))⟩
  t0 := Try.underlying0
  a0 := Try.isAgg0
  z0 := Try.sizeOf0
  v0 := Try.zeroValue0
  t24 := Try.underlying22
  a24 := Try.isAgg22
  z24 := Try.sizeOf22
  v24 := Try.zeroValue22
  t26 := Try.underlying3
  a26 := Try.isAgg3
  z26 := Try.sizeOf3
  v26 := Try.zeroValue3
  t28 := Try.underlying123
  a28 := Try.isAgg123
  z28 := Try.sizeOf123
  v28 := Try.zeroValue123
  i26 := by kernel_rfl }

def sortL_ren : Go.Shelf.Ren := ⟨fun | 5 => 60 | 8 => 69 | 7 => 68 | 19 => 80 | 20 => 81 | 10 => 71 | 11 => 72 | 12 => 73 | 13 => 74 | 14 => 75 | 15 => 76 | 16 => 77 | 17 => 78 | 18 => 79 | 30 => 82 | 31 => 83 | 32 => 84 | 33 => 85 | 34 => 86 | 35 => 87 | 40 => 88 | n => n, fun | 23 => 22 | 25 => 3 | 3 => 3 | 32 => 117 | 22 => 22 | 0 => 0 | 44 => 148 | 46 => 150 | 4 => 4 | 36 => 141 | 35 => 140 | 41 => 145 | 5 => 5 | 9 => 9 | 53 => 151 | 57 => 155 | 63 => 157 | 64 => 158 | n => n, fun | n => n⟩
theorem sortL : Go.Proofs.SlLaysM.n5 Try.prog sortL_ren := {
  mixed := by kernel_rfl
  f5 := ⟨Try.f60.name, by decide, Try.func60.trans (congrArg some (by kernel_rfl))⟩
  f7 := ⟨Try.f68.name, by decide, Try.func68.trans (congrArg some (by kernel_rfl))⟩
  f8 := Try.func69.trans (congrArg some (by kernel_rfl))
  f10 := ⟨Try.f71.name, by decide, Try.func71.trans (congrArg some (by kernel_rfl))⟩
  f11 := ⟨Try.f72.name, by decide, Try.func72.trans (congrArg some (by kernel_rfl))⟩
  f12 := ⟨Try.f73.name, by decide, Try.func73.trans (congrArg some (by kernel_rfl))⟩
  f13 := ⟨Try.f74.name, by decide, Try.func74.trans (congrArg some (by kernel_rfl))⟩
  f14 := ⟨Try.f75.name, by decide, Try.func75.trans (congrArg some (by kernel_rfl))⟩
  f15 := ⟨Try.f76.name, by decide, Try.func76.trans (congrArg some (by kernel_rfl))⟩
  f16 := ⟨Try.f77.name, by decide, Try.func77.trans (congrArg some (by kernel_rfl))⟩
  f17 := ⟨Try.f78.name, by decide, Try.func78.trans (congrArg some (by kernel_rfl))⟩
  f18 := ⟨Try.f79.name, by decide, Try.func79.trans (congrArg some (by kernel_rfl))⟩
  f19 := Try.func80.trans (congrArg some (by kernel_rfl))
  f20 := Try.func81.trans (congrArg some (by kernel_rfl))
  f30 := ⟨Try.f82.name, by decide, Try.func82.trans (congrArg some (by kernel_rfl))⟩
  f31 := Try.func83.trans (congrArg some (by kernel_rfl))
  f32 := Try.func84.trans (congrArg some (by kernel_rfl))
  f33 := ⟨Try.f85.name, by decide, Try.func85.trans (congrArg some (by kernel_rfl))⟩
  f34 := ⟨Try.f86.name, by decide, Try.func86.trans (congrArg some (by kernel_rfl))⟩
  f35 := ⟨Try.f87.name, by decide, Try.func87.trans (congrArg some (by kernel_rfl))⟩
  f40 := ⟨Try.f88.name, by decide, Try.func88.trans (congrArg some (by kernel_rfl))⟩
  t0 := Try.underlying0
  a0 := Try.isAgg0
  z0 := Try.sizeOf0
  v0 := Try.zeroValue0
  t3 := Try.underlying3
  a3 := Try.isAgg3
  z3 := Try.sizeOf3
  v3 := Try.zeroValue3
  t4 := Try.underlying4
  a4 := Try.isAgg4
  z4 := Try.sizeOf4
  v4 := Try.zeroValue4
  t5 := Try.underlying5
  a5 := Try.isAgg5
  z5 := Try.sizeOf5
  v5 := Try.zeroValue5
  t9 := Try.underlying9
  a9 := Try.isAgg9
  z9 := Try.sizeOf9
  v9 := Try.zeroValue9
  t22 := Try.underlying22
  a22 := Try.isAgg22
  z22 := Try.sizeOf22
  v22 := Try.zeroValue22
  t23 := Try.underlying22
  a23 := Try.isAgg22
  z23 := Try.sizeOf22
  v23 := Try.zeroValue22
  t25 := Try.underlying3
  a25 := Try.isAgg3
  z25 := Try.sizeOf3
  v25 := Try.zeroValue3
  t32 := Try.underlying117
  a32 := Try.isAgg117
  z32 := Try.sizeOf117
  v32 := Try.zeroValue117
  t35 := Try.underlying140
  a35 := Try.isAgg140
  z35 := Try.sizeOf140
  v35 := Try.zeroValue140
  t36 := Try.underlying141
  a36 := Try.isAgg141
  z36 := Try.sizeOf141
  v36 := Try.zeroValue141
  t41 := Try.underlying145
  a41 := Try.isAgg145
  z41 := Try.sizeOf145
  v41 := Try.zeroValue145
  t44 := Try.underlying148
  a44 := Try.isAgg148
  z44 := Try.sizeOf148
  v44 := Try.zeroValue148
  t46 := Try.underlying150
  a46 := Try.isAgg150
  z46 := Try.sizeOf150
  v46 := Try.zeroValue150
  t53 := Try.underlying151
  a53 := Try.isAgg151
  z53 := Try.sizeOf151
  v53 := Try.zeroValue151
  t57 := Try.underlying155
  a57 := Try.isAgg155
  z57 := Try.sizeOf155
  v57 := Try.zeroValue155
  t63 := Try.underlying157
  a63 := Try.isAgg157
  z63 := Try.sizeOf157
  v63 := Try.zeroValue157
  t64 := Try.underlying158
  a64 := Try.isAgg158
  z64 := Try.sizeOf158
  v64 := Try.zeroValue158 }

attribute [local go_sem] Oper.semAt_some
/-- what has come when k rounds are over. -/
def firstK (zs : List Int) (k : Nat) : List Int := zs.take k
set_option maxRecDepth 100000 in
set_option maxHeartbeats 2000000 in
/-- the closure of slices.Values: each number, in order, to a body that keeps what lay below. -/
theorem values1_in (F : Fence) (m : Nat) (hf : F.fn 61) (hro : F.round = none) (hn : 1 ≤ m) (l Bs n₀ b off n c : Nat) (A : Option Addr) (hA : 0 < n → A = some ⟨b, off, none⟩) (zs : List Int) (hz : zs.length = n) (hn9 : n * 8 ≤ 140737488351232) (hb : 0 < n → b < n₀) (J : List Int → World → Prop)
    (hY : ∀ pre x W, J pre W → pre.length < n → YieldAt F (m - 1) Try.prog l #[.int .i64 x] W fun e W' => e = .returned (.bool true) ∧ J (pre ++ [x]) W') (hJB : ∀ pre W, J pre W → ∀ j, j < n → W.cell? ⟨b, off + j, none⟩ = some (.int .i64 (zs.getD j 0)))
    (W : World) (hBs : W.cell? ⟨Bs, 0, none⟩ = some (.slice A n c)) (h0 : J [] W) :
    CallsIn F m Try.prog 61 #[.func (.yield l) #[] #[], .pointer (some ⟨Bs, 0, none⟩)] W fun e W' => (∃ v, e = .returned v) ∧ J zs W' := by
  refine callsIn_of_wp Try.func61 rfl hf ?_ hro
  simp only [Try.ntmps61, List.size_toArray, List.length_cons, List.length_nil, Nat.reduceAdd, Nat.reduceSub, Array.replicate_succ, Array.replicate_zero, List.push_toArray, List.append_toArray, List.nil_append, List.cons_append]
  gi_wp2
  gi_loopw [7] (fun i wr => ∃ k : Nat, k ≤ n ∧ i = .int .i64 k ∧ J (zs.take k) wr)
    (fun i _ => n - (Lib.intOf i).toNat)
  case atStart => exact ⟨0, Nat.zero_le _, rfl, h0⟩
  case round =>
    obtain ⟨k, hk, rfl, hJs⟩ := hrel
    have hcx := hJB _ _ hJs
    by_cases hlt : k < n
    · have hcx' := hcx k hlt
      have hA' := hA (by omega)
      subst hA'
      have hsx : zs.take k ++ [zs.getD k 0] = zs.take (k + 1) := by
        rw [List.take_add_one, List.getD_eq_getElem?_getD, List.getElem?_eq_getElem (by omega : k < zs.length)]
        rfl
      obtain ⟨z, hz9⟩ : ∃ z, zs.getD k 0 = z := ⟨_, rfl⟩
      rw [hz9] at hcx' hsx
      have HS9 := Lib.hid hsx
      clear hz9 hsx
      obtain ⟨fn, tmps, assign, body, hy, hR⟩ := hY _ z wr hJs (by rw [List.length_take]; omega)
      clear hcx
      gi_wp2
      refine hR.mono ?_
      rintro e W3 ⟨rfl, hJ3⟩
      gi_wp2
      go_roundw
      case rel => exact ⟨k + 1, by omega, by simp, by rw [← HS9.out]; exact hJ3⟩
      case measure => simp [Lib.intOf]; omega
    · obtain rfl : k = n := by omega
      gi_wp2
      go_end0
      rw [List.take_of_length_le (by omega)] at hJs
      exact ⟨⟨_, rfl⟩, hJs⟩
set_option maxRecDepth 100000 in
set_option maxHeartbeats 2000000 in
/-- slices.AppendSeq(nil, slices.Values(l)). -/
theorem append_in (F : Fence) (m : Nat) (hf : F.fn 67) (hg : F.fn 61) (hro : F.round = none) (hn : 2 ≤ m) (Bs0 b off n c : Nat) (A : Option Addr) (hA : 0 < n → A = some ⟨b, off, none⟩) (zs : List Int) (hz : zs.length = n) (hn9 : n * 8 ≤ 140737488351232)
    (w : World) (hb : 0 < n → b < w.heap.size) (hB0 : Bs0 < w.heap.size) (hcs : ∀ j, j < n → w.cell? ⟨b, off + j, none⟩ = some (.int .i64 (zs.getD j 0))) (hBs : w.cell? ⟨Bs0, 0, none⟩ = some (.slice A n c)) :
    CallsIn F m Try.prog 67 #[.slice none 0 0, .func (.func 61) #[] #[.pointer (some ⟨Bs0, 0, none⟩)]] w fun e w' => ∃ v : Value, e = .returned v ∧ w'.ownsRow w.heap.size 3 1 v zs.length (zs.map encZ) ∧ Below w.heap.size w w' := by
  have L := apL
  have h1 : 1 ≤ m := by omega
  have eg : ∀ args w, (callFunc 61 args).run Try.prog w = .ok (.enter 61 args) w := enters_of Try.func61 (by kernel_rfl) rfl
  obtain ⟨G, hG⟩ : ∃ G, (61 : FuncId) = G := ⟨_, rfl⟩
  obtain ⟨lb, hlb⟩ : ∃ lb, (#[.pointer (some ⟨Bs0, 0, none⟩)] : Array Value) = lb := ⟨_, rfl⟩
  refine callsIn_of_wp_marks Try.func67 rfl hf ?_ hro
  simp only [Try.ntmps67, List.size_toArray, List.length_cons, List.length_nil, Nat.reduceAdd, Nat.reduceSub, Array.replicate_succ, Array.replicate_zero, List.push_toArray, List.append_toArray, List.nil_append, List.cons_append]
  gi_wp2
  refine wpIn_rangeFunc ?_
  intro fn hfn
  rw [hro]
  obtain ⟨W0, hW0⟩ : ∃ W0, w.alloc (.cells #[.slice none 0 0] 22) = W0 := ⟨_, rfl⟩
  have hs0 : W0.heap.size = w.heap.size + 1 := by rw [← hW0]; simp
  have hv0 : W0.heap[w.heap.size]? = some (.cells #[.slice none 0 0] 22 (0, 0)) := by rw [← hW0]; exact World.alloc_heap_new w _
  have hb0 : Below w.heap.size w W0 := by rw [← hW0]; exact (Below.refl _ w).alloc (Nat.le_refl _) _
  rw [hW0]
  obtain ⟨W1, hW1⟩ : ∃ W1, (W0.alloc (.deferred (some []))).alloc (.loop (AnyZI.apRec apL_ren fn (.func (.func 61) #[] #[.pointer (some ⟨Bs0, 0, none⟩)]) w.heap.size W0.heap.size .ready none)) = W1 := ⟨_, rfl⟩
  have hold : ∀ k, k < W0.heap.size → W1.heap[k]? = W0.heap[k]? := fun k hk => by
    rw [← hW1]; exact (Below.heap_alloc _ _ k (by simp; omega)).trans (Below.heap_alloc _ _ k hk)
  have hb1 : Below w.heap.size w W1 := by rw [← hW1]; exact (hb0.alloc hb0.size _).alloc (by have := hb0.size; simp; omega) _
  have hs1 : W1.heap.size = W0.heap.size + 2 := by rw [← hW1]; simp
  have hM : AnyZI.ApAt apL_ren w fn (.func (.func 61) #[] #[.pointer (some ⟨Bs0, 0, none⟩)]) w.heap.size (W0.heap.size + 1) W0.heap.size [] W1 :=
    ⟨⟨_, (hold w.heap.size (by omega)).trans hv0, ⟨rfl, .inl ⟨rfl, rfl⟩⟩, by simp⟩,
     by rw [← hW1]; have := World.alloc_heap_new (W0.alloc (.deferred (some []))) (.loop (AnyZI.apRec apL_ren fn (.func (.func 61) #[] #[.pointer (some ⟨Bs0, 0, none⟩)]) w.heap.size W0.heap.size .ready none)); rwa [World.size_alloc] at this,
     by rw [← hW1]; exact (Below.heap_alloc _ _ _ (by simp)).trans (World.alloc_heap_new W0 _), hb1⟩
  refine ⟨W0.heap.size + 1, [{ target := .collected W0.heap.size, args := #[] }], W1, { target := .fn (.func 61) #[.pointer (some ⟨Bs0, 0, none⟩)], args := #[.func (.yield (W0.heap.size + 1)) #[] #[]] }, W1, 61,
    #[.func (.yield (W0.heap.size + 1)) #[] #[]] ++ #[.pointer (some ⟨Bs0, 0, none⟩)], W1, ?_, ?_, ?_, ?_, fun _ => h1, ?_⟩
  · rw [← hW1]; exact run_enterLoop_outer _ _ _ _ _
  · simp [resolve, go_sem]
  · intro f' hf'; simp [Target.leads] at hf'; subst hf'; exact hg
  · simp [invoke, go_sem, eg]
  · refine (values1_in F (m - 1) hg hro (by omega) (W0.heap.size + 1) Bs0 w.heap.size b off n c A hA zs hz hn9 hb (AnyZI.ApAt apL_ren w fn (.func (.func 61) #[] #[.pointer (some ⟨Bs0, 0, none⟩)]) w.heap.size (W0.heap.size + 1) W0.heap.size)
      (fun pre x W hJ hl => (AnyZI.apYield L F (m - 1 - 1) w fn hfn _ w.heap.size (W0.heap.size + 1) W0.heap.size (by omega) (by omega) (by omega) (Nat.le_refl _) (by omega) n (by unfold maxLen; omega) (by omega) pre x W hJ hl).mono (fun e W' h => ⟨h.1, h.2.1⟩))
      (fun pre W hJ j hj => (hJ.below.cell (p := ⟨b, off + j, none⟩) (hb (by omega))).trans (hcs j hj)) W1 ((hb1.cell (p := ⟨Bs0, 0, none⟩) hB0).trans hBs) hM).mono ?_
    rintro e W2 ⟨⟨v0, rfl⟩, h2⟩
    obtain ⟨v, hv, hrow, hnil⟩ := h2.box
    have hne : (22 : TypeId) ≠ 3 := by decide
    have hend := run_endLoop (P := Try.prog) h2.L (by simp [AnyZI.apRec])
    obtain ⟨W3, hW3⟩ : ∃ W3, W2.putObj (W0.heap.size + 1) (.loop { AnyZI.apRec apL_ren fn (.func (.func 61) #[] #[.pointer (some ⟨Bs0, 0, none⟩)]) w.heap.size W0.heap.size .ready none with state := .exhausted }) = W3 := ⟨_, rfl⟩
    rw [hW3] at hend
    have hg3 : W2.grownBy W3 (some (W0.heap.size + 1)) := by rw [← hW3]; exact grownBy_putObj_a _ _ _
    have hv3 : W3.heap[w.heap.size]? = some (.cells #[v] 22 (0, 0)) := by rw [← hW3]; exact (World.putObj_heap_other (by omega)).trans hv
    have hK3 : W3.heap[W0.heap.size]? = some (.deferred (some [])) := by rw [← hW3]; exact (World.putObj_heap_other (by omega)).trans h2.K
    have hrow3 := hrow.kept hg3 (ownsRow_ne_a hrow h2.L (fun cur e => by first | cases e | exact hne (Obj.cells.inj e).2.1))
    have hb3 : Below w.heap.size w W3 := h2.below.grown hg3 h2.below.size (fun k e => by cases e; omega)
    obtain ⟨hc3, hf3⟩ := cell_of_box_a hv3
    clear hW3
    refine ⟨none, W3, hend, ?_⟩
    gi_wp2
    rw [← hs0]
    refine ⟨by simp, .inl ⟨_, _, rfl, run_takeDeferred hK3, ?_⟩⟩
    exact ⟨_, results_tmp rfl _ _ _, v, rfl, hrow3.kept (grownBy_putObj_a _ _ _) (ownsRow_ne_a hrow3 hK3 (fun cur e => by first | cases e | exact hne (Obj.cells.inj e).2.1)), hb3.grown (grownBy_putObj_a _ _ _) hb3.size (fun k e => by cases e; omega)⟩
theorem sort_ints (zs : List Int) (A c : Nat) (W : World) (hH : Holds encZ W A 0 zs.toArray) (hA : A < W.heap.size) (hsz : zs.length < 4611686018427387904) :
    Calls Try.prog 60 #[.slice (some ⟨A, 0, none⟩) zs.length c] W fun e w' => e = .returned (.tuple #[]) ∧ ∃ k os, w' = grow (putRow encZ (Sort.ahead W k) A 0 (zs.mergeSort fun x y => decide (x ≤ y)).toArray) os :=
  AnyM.slices_Sort_int sortL A 0 c zs W hH hA hsz
theorem collect_ints (b off n c Bs0 : Nat) (A : Option Addr) (hA : 0 < n → A = some ⟨b, off, none⟩) (zs : List Int) (hz : zs.length = n) (hn9 : n * 8 ≤ 140737488351232)
    (w : World) (hb : 0 < n → b < w.heap.size) (hB0 : Bs0 < w.heap.size) (hcs : ∀ j, j < n → w.cell? ⟨b, off + j, none⟩ = some (.int .i64 (zs.getD j 0))) (hBs : w.cell? ⟨Bs0, 0, none⟩ = some (.slice A n c)) :
    Calls Try.prog 59 #[.func (.func 61) #[] #[.pointer (some ⟨Bs0, 0, none⟩)]] w fun e w' => ∃ v : Value, e = .returned v ∧ w'.ownsRow w.heap.size 3 1 v zs.length (zs.map encZ) ∧ Below w.heap.size w w' := by
  have C := callsIn_wide.1 (append_in Fence.wide 2 trivial trivial rfl (Nat.le_refl _) Bs0 b off n c A hA zs hz hn9 w hb hB0 hcs hBs)
  go_enter Try.func59, Try.ntmps59
  go_wp2_with fail
  refine C.mono ?_
  rintro e w' ⟨v, rfl, h1, h2⟩
  go_wp2_with fail
  go_ret
  exact ⟨v, rfl, h1, h2⟩
/-- slices.Sorted(slices.Values(l)). -/
theorem sorted_ints (b off n c Bs0 : Nat) (zs : List Int) (hz : zs.length = n) (hn0 : 0 < n) (hn9 : n * 8 ≤ 140737488351232)
    (w : World) (hb : b < w.heap.size) (hB0 : Bs0 < w.heap.size) (hcs : ∀ j, j < n → w.cell? ⟨b, off + j, none⟩ = some (.int .i64 (zs.getD j 0))) (hBs : w.cell? ⟨Bs0, 0, none⟩ = some (.slice (some ⟨b, off, none⟩) n c)) :
    Calls Try.prog 51 #[.func (.func 61) #[] #[.pointer (some ⟨Bs0, 0, none⟩)]] w fun e w' => ∃ g cap, e = .returned (.slice (some ⟨g, 0, none⟩) n cap) ∧ n ≤ cap ∧ cap ≤ maxLen ∧ g < w'.heap.size ∧ (∀ j, j < n → w'.cell? ⟨g, j, none⟩ = some (.int .i64 ((sortI zs).getD j 0))) ∧ Below w.heap.size w w' := by
  subst hz
  have C := collect_ints b off zs.length c Bs0 (some ⟨b, off, none⟩) (fun _ => rfl) zs rfl hn9 w (fun _ => hb) hB0 hcs hBs
  go_enter Try.func51, Try.ntmps51
  go_wp2_with fail
  refine C.mono ?_
  rintro e W ⟨v, rfl, hrow, hB⟩
  rcases hrow.2 with ⟨rfl, h0⟩ | ⟨g, cap, cur, rfl, hbase, hgb, r1, r2, r3, r4⟩
  · omega
  · have hH : Holds encZ W g 0 zs.toArray := holds_of_block_i hgb (by simpa using r4)
    have hgl : g < W.heap.size := (Array.getElem?_eq_some_iff.1 hgb).1
    have cS := sort_ints zs g cap W hH hgl (by omega)
    have HS := Lib.hid hrow
    clear hrow C hcs hBs
    go_wp2_with fail
    refine cS.mono ?_
    rintro e w' ⟨rfl, k, os, rfl⟩
    have ho := ownsRow_sorted_i (w := W) (n := k) (base := w.heap.size) (e := 3) (os := os) (ss := zs) (ts := zs.mergeSort fun x y => decide (x ≤ y)) (List.length_mergeSort _) hbase hgb r1 r2 r3
    have hb2 : Below w.heap.size w (grow (putRow encZ (Sort.ahead W k) g 0 (zs.mergeSort fun x y => decide (x ≤ y)).toArray) os) := hB.grown (grownBy_sorted_i _) hB.size (fun j hj => by cases hj; exact hbase)
    generalize grow (putRow encZ (Sort.ahead W k) g 0 (zs.mergeSort fun x y => decide (x ≤ y)).toArray) os = w5 at ho hb2 ⊢
    go_wp2_with fail
    go_ret
    obtain ⟨hl, hr⟩ := ho
    have hlen : (sortI zs).length = zs.length := sortI_len zs
    rcases hr with ⟨h, _⟩ | ⟨g', cap', cur', he, hb', hg', s1, s2, s3, s4⟩
    · cases h
    · obtain ⟨rfl, rfl⟩ : g' = g ∧ cap' = cap := by
        simp only [Value.slice.injEq, Option.some.injEq, Addr.mk.injEq] at he
        exact ⟨he.1.1.symm, he.2.2.symm⟩
      refine ⟨g', cap', rfl, s1, s2, (Array.getElem?_eq_some_iff.1 hg').1, fun j hj => ?_, hb2⟩
      have hx : cur'.toList[j]? = some (.int .i64 ((sortI zs).getD j 0)) := by
        have h1 : (cur'.toList.take (zs.length * 1))[j]? = (List.map encZ (zs.mergeSort fun x y => decide (x ≤ y)))[j]? := by rw [s4]
        rw [List.getElem?_take_of_lt (by omega), List.getElem?_map] at h1
        rw [h1, show (zs.mergeSort fun x y => decide (x ≤ y)) = sortI zs from rfl, List.getD_eq_getElem?_getD, List.getElem?_eq_getElem (by omega : j < (sortI zs).length)]
        rfl
      have hx2 : cur'[j]? = some (.int .i64 ((sortI zs).getD j 0)) := by rw [← hx, Array.getElem?_toList]
      simp [World.cell?, hg', hx2]
end Go.Proofs.Ytfjpfkejajgkbaa
