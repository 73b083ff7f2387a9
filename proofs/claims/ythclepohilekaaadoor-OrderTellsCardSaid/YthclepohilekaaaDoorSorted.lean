/- slices.Sorted(slices.Values(l)), for a slice of integers: a new slice of the same numbers, rising. -/
import Derived.RangeFuncBox
import Derived.RangeFuncLeaves
import Derived.RangeFuncBound
import Derived.OwnWalkIn
import Derived.TacticsInMore
import Derived.LoopNIn
import Derived.LoopIn
import Derived.Shelf.SlIterI.Collect
import Derived.Shelf.SortM.Plain
import Derived.Sort.OwnSorted
import Derived.Test.YthclepohilekaaaDoorStatP
import Derived.Test.YthclepohilekaaaDoorOwn
import Derived.Shelf.SlLaysZI
import Derived.Shelf.SlLaysM
namespace Go.Proofs.YthclepohilekaaaDoor
open Go.RowKit Go.Maps Go.Sort Go.Shelf
set_option linter.unusedVariables false
set_option linter.unusedSimpArgs false
def apL_ren : Go.Shelf.Ren := ⟨fun | 11 => 46 | n => n, fun | 24 => 23 | 26 => 3 | 28 => 66 | 0 => 0 | 33 => 70 | 4 => 4 | n => n, fun | n => n⟩
theorem apL : Go.Proofs.SlLaysZI.n11 Tryd.prog apL_ren := {
  mixed := by kernel_rfl
  f11 := ⟨Tryd.f46.name, by decide, Tryd.func46.trans (congrArg some (by kernel_rfl))⟩
  t0 := Tryd.underlying0
  a0 := Tryd.isAgg0
  z0 := Tryd.sizeOf0
  v0 := Tryd.zeroValue0
  t24 := Tryd.underlying23
  a24 := Tryd.isAgg23
  z24 := Tryd.sizeOf23
  v24 := Tryd.zeroValue23
  t26 := Tryd.underlying3
  a26 := Tryd.isAgg3
  z26 := Tryd.sizeOf3
  v26 := Tryd.zeroValue3
  t28 := Tryd.underlying66
  a28 := Tryd.isAgg66
  z28 := Tryd.sizeOf66
  v28 := Tryd.zeroValue66
  i26 := by kernel_rfl }

def sortL_ren : Go.Shelf.Ren := ⟨fun | 5 => 40 | 8 => 29 | 7 => 47 | 19 => 37 | 20 => 38 | 10 => 51 | 11 => 52 | 12 => 53 | 13 => 54 | 14 => 55 | 15 => 56 | 16 => 57 | 17 => 58 | 18 => 59 | 30 => 60 | 31 => 61 | 32 => 62 | 33 => 63 | 34 => 64 | 35 => 65 | 40 => 66 | n => n, fun | 23 => 23 | 25 => 3 | 3 => 3 | 32 => 61 | 22 => 23 | 0 => 0 | 44 => 73 | 46 => 75 | 4 => 4 | 36 => 108 | 35 => 107 | 41 => 52 | 5 => 5 | 9 => 9 | 53 => 114 | 57 => 118 | 63 => 120 | 64 => 121 | n => n, fun | n => n⟩
theorem sortL : Go.Proofs.SlLaysM.n5 Tryd.prog sortL_ren := {
  mixed := by kernel_rfl
  f5 := ⟨Tryd.f40.name, by decide, Tryd.func40.trans (congrArg some (by kernel_rfl))⟩
  f7 := ⟨Tryd.f47.name, by decide, Tryd.func47.trans (congrArg some (by kernel_rfl))⟩
  f8 := Tryd.func29.trans (congrArg some (by kernel_rfl))
  f10 := ⟨Tryd.f51.name, by decide, Tryd.func51.trans (congrArg some (by kernel_rfl))⟩
  f11 := ⟨Tryd.f52.name, by decide, Tryd.func52.trans (congrArg some (by kernel_rfl))⟩
  f12 := ⟨Tryd.f53.name, by decide, Tryd.func53.trans (congrArg some (by kernel_rfl))⟩
  f13 := ⟨Tryd.f54.name, by decide, Tryd.func54.trans (congrArg some (by kernel_rfl))⟩
  f14 := ⟨Tryd.f55.name, by decide, Tryd.func55.trans (congrArg some (by kernel_rfl))⟩
  f15 := ⟨Tryd.f56.name, by decide, Tryd.func56.trans (congrArg some (by kernel_rfl))⟩
  f16 := ⟨Tryd.f57.name, by decide, Tryd.func57.trans (congrArg some (by kernel_rfl))⟩
  f17 := ⟨Tryd.f58.name, by decide, Tryd.func58.trans (congrArg some (by kernel_rfl))⟩
  f18 := ⟨Tryd.f59.name, by decide, Tryd.func59.trans (congrArg some (by kernel_rfl))⟩
  f19 := Tryd.func37.trans (congrArg some (by kernel_rfl))
  f20 := Tryd.func38.trans (congrArg some (by kernel_rfl))
  f30 := ⟨Tryd.f60.name, by decide, Tryd.func60.trans (congrArg some (by kernel_rfl))⟩
  f31 := Tryd.func61.trans (congrArg some (by kernel_rfl))
  f32 := Tryd.func62.trans (congrArg some (by kernel_rfl))
  f33 := ⟨Tryd.f63.name, by decide, Tryd.func63.trans (congrArg some (by kernel_rfl))⟩
  f34 := ⟨Tryd.f64.name, by decide, Tryd.func64.trans (congrArg some (by kernel_rfl))⟩
  f35 := ⟨Tryd.f65.name, by decide, Tryd.func65.trans (congrArg some (by kernel_rfl))⟩
  f40 := ⟨Tryd.f66.name, by decide, Tryd.func66.trans (congrArg some (by kernel_rfl))⟩
  t0 := Tryd.underlying0
  a0 := Tryd.isAgg0
  z0 := Tryd.sizeOf0
  v0 := Tryd.zeroValue0
  t3 := Tryd.underlying3
  a3 := Tryd.isAgg3
  z3 := Tryd.sizeOf3
  v3 := Tryd.zeroValue3
  t4 := Tryd.underlying4
  a4 := Tryd.isAgg4
  z4 := Tryd.sizeOf4
  v4 := Tryd.zeroValue4
  t5 := Tryd.underlying5
  a5 := Tryd.isAgg5
  z5 := Tryd.sizeOf5
  v5 := Tryd.zeroValue5
  t9 := Tryd.underlying9
  a9 := Tryd.isAgg9
  z9 := Tryd.sizeOf9
  v9 := Tryd.zeroValue9
  t22 := Tryd.underlying23
  a22 := Tryd.isAgg23
  z22 := Tryd.sizeOf23
  v22 := Tryd.zeroValue23
  t23 := Tryd.underlying23
  a23 := Tryd.isAgg23
  z23 := Tryd.sizeOf23
  v23 := Tryd.zeroValue23
  t25 := Tryd.underlying3
  a25 := Tryd.isAgg3
  z25 := Tryd.sizeOf3
  v25 := Tryd.zeroValue3
  t32 := Tryd.underlying61
  a32 := Tryd.isAgg61
  z32 := Tryd.sizeOf61
  v32 := Tryd.zeroValue61
  t35 := Tryd.underlying107
  a35 := Tryd.isAgg107
  z35 := Tryd.sizeOf107
  v35 := Tryd.zeroValue107
  t36 := Tryd.underlying108
  a36 := Tryd.isAgg108
  z36 := Tryd.sizeOf108
  v36 := Tryd.zeroValue108
  t41 := Tryd.underlying52
  a41 := Tryd.isAgg52
  z41 := Tryd.sizeOf52
  v41 := Tryd.zeroValue52
  t44 := Tryd.underlying73
  a44 := Tryd.isAgg73
  z44 := Tryd.sizeOf73
  v44 := Tryd.zeroValue73
  t46 := Tryd.underlying75
  a46 := Tryd.isAgg75
  z46 := Tryd.sizeOf75
  v46 := Tryd.zeroValue75
  t53 := Tryd.underlying114
  a53 := Tryd.isAgg114
  z53 := Tryd.sizeOf114
  v53 := Tryd.zeroValue114
  t57 := Tryd.underlying118
  a57 := Tryd.isAgg118
  z57 := Tryd.sizeOf118
  v57 := Tryd.zeroValue118
  t63 := Tryd.underlying120
  a63 := Tryd.isAgg120
  z63 := Tryd.sizeOf120
  v63 := Tryd.zeroValue120
  t64 := Tryd.underlying121
  a64 := Tryd.isAgg121
  z64 := Tryd.sizeOf121
  v64 := Tryd.zeroValue121 }

attribute [local go_sem] Oper.semAt_some
/-- what has come when k rounds are over. -/
def firstK (zs : List Int) (k : Nat) : List Int := zs.take k
set_option maxRecDepth 100000 in
set_option maxHeartbeats 2000000 in
/-- the closure of slices.Values: each number, in order, to a body that keeps what lay below. -/
theorem values1_in (F : Fence) (m : Nat) (hf : F.fn 41) (hro : F.round = none) (hn : 1 ≤ m) (l Bs n₀ b off n c : Nat) (A : Option Addr) (hA : 0 < n → A = some ⟨b, off, none⟩) (zs : List Int) (hz : zs.length = n) (hn9 : n * 8 ≤ 140737488351232) (hb : 0 < n → b < n₀) (J : List Int → World → Prop)
    (hY : ∀ pre x W, J pre W → pre.length < n → YieldAt F (m - 1) Tryd.prog l #[.int .i64 x] W fun e W' => e = .returned (.bool true) ∧ J (pre ++ [x]) W') (hJB : ∀ pre W, J pre W → ∀ j, j < n → W.cell? ⟨b, off + j, none⟩ = some (.int .i64 (zs.getD j 0)))
    (W : World) (hBs : W.cell? ⟨Bs, 0, none⟩ = some (.slice A n c)) (h0 : J [] W) :
    CallsIn F m Tryd.prog 41 #[.func (.yield l) #[] #[], .pointer (some ⟨Bs, 0, none⟩)] W fun e W' => (∃ v, e = .returned v) ∧ J zs W' := by
  refine callsIn_of_wp Tryd.func41 rfl hf ?_ hro
  simp only [Tryd.ntmps41, List.size_toArray, List.length_cons, List.length_nil, Nat.reduceAdd, Nat.reduceSub, Array.replicate_succ, Array.replicate_zero, List.push_toArray, List.append_toArray, List.nil_append, List.cons_append]
  gi_wp2
  gi_loopw [7] (fun i wr => ∃ k : Nat, k ≤ n ∧ i = .int .i64 k ∧ J (zs.take k) wr)
    (fun i _ => n - (Lib.intOf i).toNat)
  case atStart => exact ⟨0, Nat.zero_le _, rfl, h0⟩
  case round =>
    obtain ⟨k, hk, rfl, hJs⟩ := hrel
    have hcx := hJB _ _ hJs
    by_cases hlt : k < n
    · have hcx' := hcx k hlt
      have hA' := hA (by omega)
      subst hA'
      have hsx : zs.take k ++ [zs.getD k 0] = zs.take (k + 1) := by
        rw [List.take_add_one, List.getD_eq_getElem?_getD, List.getElem?_eq_getElem (by omega : k < zs.length)]
        rfl
      obtain ⟨z, hz9⟩ : ∃ z, zs.getD k 0 = z := ⟨_, rfl⟩
      rw [hz9] at hcx' hsx
      have HS9 := Lib.hid hsx
      clear hz9 hsx
      obtain ⟨fn, tmps, assign, body, hy, hR⟩ := hY _ z wr hJs (by rw [List.length_take]; omega)
      clear hcx
      gi_wp2
      refine hR.mono ?_
      rintro e W3 ⟨rfl, hJ3⟩
      gi_wp2
      go_roundw
      case rel => exact ⟨k + 1, by omega, by simp, by rw [← HS9.out]; exact hJ3⟩
      case measure => simp [Lib.intOf]; omega
    · obtain rfl : k = n := by omega
      gi_wp2
      go_end0
      rw [List.take_of_length_le (by omega)] at hJs
      exact ⟨⟨_, rfl⟩, hJs⟩
set_option maxRecDepth 100000 in
set_option maxHeartbeats 2000000 in
/-- slices.AppendSeq(nil, slices.Values(l)). -/
theorem append_in (F : Fence) (m : Nat) (hf : F.fn 46) (hg : F.fn 41) (hro : F.round = none) (hn : 2 ≤ m) (Bs0 b off n c : Nat) (A : Option Addr) (hA : 0 < n → A = some ⟨b, off, none⟩) (zs : List Int) (hz : zs.length = n) (hn9 : n * 8 ≤ 140737488351232)
    (w : World) (hb : 0 < n → b < w.heap.size) (hB0 : Bs0 < w.heap.size) (hcs : ∀ j, j < n → w.cell? ⟨b, off + j, none⟩ = some (.int .i64 (zs.getD j 0))) (hBs : w.cell? ⟨Bs0, 0, none⟩ = some (.slice A n c)) :
    CallsIn F m Tryd.prog 46 #[.slice none 0 0, .func (.func 41) #[] #[.pointer (some ⟨Bs0, 0, none⟩)]] w fun e w' => ∃ v : Value, e = .returned v ∧ w'.ownsRow w.heap.size 3 1 v zs.length (zs.map encZ) ∧ Below w.heap.size w w' := by
  have L := apL
  have h1 : 1 ≤ m := by omega
  have eg : ∀ args w, (callFunc 41 args).run Tryd.prog w = .ok (.enter 41 args) w := enters_of Tryd.func41 (by kernel_rfl) rfl
  obtain ⟨G, hG⟩ : ∃ G, (41 : FuncId) = G := ⟨_, rfl⟩
  obtain ⟨lb, hlb⟩ : ∃ lb, (#[.pointer (some ⟨Bs0, 0, none⟩)] : Array Value) = lb := ⟨_, rfl⟩
  refine callsIn_of_wp_marks Tryd.func46 rfl hf ?_ hro
  simp only [Tryd.ntmps46, List.size_toArray, List.length_cons, List.length_nil, Nat.reduceAdd, Nat.reduceSub, Array.replicate_succ, Array.replicate_zero, List.push_toArray, List.append_toArray, List.nil_append, List.cons_append]
  gi_wp2
  refine wpIn_rangeFunc ?_
  intro fn hfn
  rw [hro]
  obtain ⟨W0, hW0⟩ : ∃ W0, w.alloc (.cells #[.slice none 0 0] 23) = W0 := ⟨_, rfl⟩
  have hs0 : W0.heap.size = w.heap.size + 1 := by rw [← hW0]; simp
  have hv0 : W0.heap[w.heap.size]? = some (.cells #[.slice none 0 0] 23 (0, 0)) := by rw [← hW0]; exact World.alloc_heap_new w _
  have hb0 : Below w.heap.size w W0 := by rw [← hW0]; exact (Below.refl _ w).alloc (Nat.le_refl _) _
  rw [hW0]
  obtain ⟨W1, hW1⟩ : ∃ W1, (W0.alloc (.deferred (some []))).alloc (.loop (AnyZI.apRec apL_ren fn (.func (.func 41) #[] #[.pointer (some ⟨Bs0, 0, none⟩)]) w.heap.size W0.heap.size .ready none)) = W1 := ⟨_, rfl⟩
  have hold : ∀ k, k < W0.heap.size → W1.heap[k]? = W0.heap[k]? := fun k hk => by
    rw [← hW1]; exact (Below.heap_alloc _ _ k (by simp; omega)).trans (Below.heap_alloc _ _ k hk)
  have hb1 : Below w.heap.size w W1 := by rw [← hW1]; exact (hb0.alloc hb0.size _).alloc (by have := hb0.size; simp; omega) _
  have hs1 : W1.heap.size = W0.heap.size + 2 := by rw [← hW1]; simp
  have hM : AnyZI.ApAt apL_ren w fn (.func (.func 41) #[] #[.pointer (some ⟨Bs0, 0, none⟩)]) w.heap.size (W0.heap.size + 1) W0.heap.size [] W1 :=
    ⟨⟨_, (hold w.heap.size (by omega)).trans hv0, ⟨rfl, .inl ⟨rfl, rfl⟩⟩, by simp⟩,
     by rw [← hW1]; have := World.alloc_heap_new (W0.alloc (.deferred (some []))) (.loop (AnyZI.apRec apL_ren fn (.func (.func 41) #[] #[.pointer (some ⟨Bs0, 0, none⟩)]) w.heap.size W0.heap.size .ready none)); rwa [World.size_alloc] at this,
     by rw [← hW1]; exact (Below.heap_alloc _ _ _ (by simp)).trans (World.alloc_heap_new W0 _), hb1⟩
  refine ⟨W0.heap.size + 1, [{ target := .collected W0.heap.size, args := #[] }], W1, { target := .fn (.func 41) #[.pointer (some ⟨Bs0, 0, none⟩)], args := #[.func (.yield (W0.heap.size + 1)) #[] #[]] }, W1, 41,
    #[.func (.yield (W0.heap.size + 1)) #[] #[]] ++ #[.pointer (some ⟨Bs0, 0, none⟩)], W1, ?_, ?_, ?_, ?_, fun _ => h1, ?_⟩
  · rw [← hW1]; exact run_enterLoop_outer _ _ _ _ _
  · simp [resolve, go_sem]
  · intro f' hf'; simp [Target.leads] at hf'; subst hf'; exact hg
  · simp [invoke, go_sem, eg]
  · refine (values1_in F (m - 1) hg hro (by omega) (W0.heap.size + 1) Bs0 w.heap.size b off n c A hA zs hz hn9 hb (AnyZI.ApAt apL_ren w fn (.func (.func 41) #[] #[.pointer (some ⟨Bs0, 0, none⟩)]) w.heap.size (W0.heap.size + 1) W0.heap.size)
      (fun pre x W hJ hl => (AnyZI.apYield L F (m - 1 - 1) w fn hfn _ w.heap.size (W0.heap.size + 1) W0.heap.size (by omega) (by omega) (by omega) (Nat.le_refl _) (by omega) n (by unfold maxLen; omega) (by omega) pre x W hJ hl).mono (fun e W' h => ⟨h.1, h.2.1⟩))
      (fun pre W hJ j hj => (hJ.below.cell (p := ⟨b, off + j, none⟩) (hb (by omega))).trans (hcs j hj)) W1 ((hb1.cell (p := ⟨Bs0, 0, none⟩) hB0).trans hBs) hM).mono ?_
    rintro e W2 ⟨⟨v0, rfl⟩, h2⟩
    obtain ⟨v, hv, hrow, hnil⟩ := h2.box
    have hne : (23 : TypeId) ≠ 3 := by decide
    have hend := run_endLoop (P := Tryd.prog) h2.L (by simp [AnyZI.apRec])
    obtain ⟨W3, hW3⟩ : ∃ W3, W2.putObj (W0.heap.size + 1) (.loop { AnyZI.apRec apL_ren fn (.func (.func 41) #[] #[.pointer (some ⟨Bs0, 0, none⟩)]) w.heap.size W0.heap.size .ready none with state := .exhausted }) = W3 := ⟨_, rfl⟩
    rw [hW3] at hend
    have hg3 : W2.grownBy W3 (some (W0.heap.size + 1)) := by rw [← hW3]; exact grownBy_putObj_a _ _ _
    have hv3 : W3.heap[w.heap.size]? = some (.cells #[v] 23 (0, 0)) := by rw [← hW3]; exact (World.putObj_heap_other (by omega)).trans hv
    have hK3 : W3.heap[W0.heap.size]? = some (.deferred (some [])) := by rw [← hW3]; exact (World.putObj_heap_other (by omega)).trans h2.K
    have hrow3 := hrow.kept hg3 (ownsRow_ne_a hrow h2.L (fun cur e => by first | cases e | exact hne (Obj.cells.inj e).2.1))
    have hb3 : Below w.heap.size w W3 := h2.below.grown hg3 h2.below.size (fun k e => by cases e; omega)
    obtain ⟨hc3, hf3⟩ := cell_of_box_a hv3
    clear hW3
    refine ⟨none, W3, hend, ?_⟩
    gi_wp2
    rw [← hs0]
    refine ⟨by simp, .inl ⟨_, _, rfl, run_takeDeferred hK3, ?_⟩⟩
    exact ⟨_, results_tmp rfl _ _ _, v, rfl, hrow3.kept (grownBy_putObj_a _ _ _) (ownsRow_ne_a hrow3 hK3 (fun cur e => by first | cases e | exact hne (Obj.cells.inj e).2.1)), hb3.grown (grownBy_putObj_a _ _ _) hb3.size (fun k e => by cases e; omega)⟩
theorem sort_ints (zs : List Int) (A c : Nat) (W : World) (hH : Holds encZ W A 0 zs.toArray) (hA : A < W.heap.size) (hsz : zs.length < 4611686018427387904) :
    Calls Tryd.prog 40 #[.slice (some ⟨A, 0, none⟩) zs.length c] W fun e w' => e = .returned (.tuple #[]) ∧ ∃ k os, w' = grow (putRow encZ (Sort.ahead W k) A 0 (zs.mergeSort fun x y => decide (x ≤ y)).toArray) os :=
  AnyM.slices_Sort_int sortL A 0 c zs W hH hA hsz
theorem collect_ints (b off n c Bs0 : Nat) (A : Option Addr) (hA : 0 < n → A = some ⟨b, off, none⟩) (zs : List Int) (hz : zs.length = n) (hn9 : n * 8 ≤ 140737488351232)
    (w : World) (hb : 0 < n → b < w.heap.size) (hB0 : Bs0 < w.heap.size) (hcs : ∀ j, j < n → w.cell? ⟨b, off + j, none⟩ = some (.int .i64 (zs.getD j 0))) (hBs : w.cell? ⟨Bs0, 0, none⟩ = some (.slice A n c)) :
    Calls Tryd.prog 39 #[.func (.func 41) #[] #[.pointer (some ⟨Bs0, 0, none⟩)]] w fun e w' => ∃ v : Value, e = .returned v ∧ w'.ownsRow w.heap.size 3 1 v zs.length (zs.map encZ) ∧ Below w.heap.size w w' := by
  have C := callsIn_wide.1 (append_in Fence.wide 2 trivial trivial rfl (Nat.le_refl _) Bs0 b off n c A hA zs hz hn9 w hb hB0 hcs hBs)
  go_enter Tryd.func39, Tryd.ntmps39
  go_wp2_with fail
  refine C.mono ?_
  rintro e w' ⟨v, rfl, h1, h2⟩
  go_wp2_with fail
  go_ret
  exact ⟨v, rfl, h1, h2⟩
/-- slices.Sorted(slices.Values(l)). -/
theorem sorted_ints (b off n c Bs0 : Nat) (zs : List Int) (hz : zs.length = n) (hn0 : 0 < n) (hn9 : n * 8 ≤ 140737488351232)
    (w : World) (hb : b < w.heap.size) (hB0 : Bs0 < w.heap.size) (hcs : ∀ j, j < n → w.cell? ⟨b, off + j, none⟩ = some (.int .i64 (zs.getD j 0))) (hBs : w.cell? ⟨Bs0, 0, none⟩ = some (.slice (some ⟨b, off, none⟩) n c)) :
    Calls Tryd.prog 31 #[.func (.func 41) #[] #[.pointer (some ⟨Bs0, 0, none⟩)]] w fun e w' => ∃ g cap, e = .returned (.slice (some ⟨g, 0, none⟩) n cap) ∧ n ≤ cap ∧ cap ≤ maxLen ∧ g < w'.heap.size ∧ (∀ j, j < n → w'.cell? ⟨g, j, none⟩ = some (.int .i64 ((sortI zs).getD j 0))) ∧ Below w.heap.size w w' := by
  subst hz
  have C := collect_ints b off zs.length c Bs0 (some ⟨b, off, none⟩) (fun _ => rfl) zs rfl hn9 w (fun _ => hb) hB0 hcs hBs
  go_enter Tryd.func31, Tryd.ntmps31
  go_wp2_with fail
  refine C.mono ?_
  rintro e W ⟨v, rfl, hrow, hB⟩
  rcases hrow.2 with ⟨rfl, h0⟩ | ⟨g, cap, cur, rfl, hbase, hgb, r1, r2, r3, r4⟩
  · omega
  · have hH : Holds encZ W g 0 zs.toArray := holds_of_block_i hgb (by simpa using r4)
    have hgl : g < W.heap.size := (Array.getElem?_eq_some_iff.1 hgb).1
    have cS := sort_ints zs g cap W hH hgl (by omega)
    have HS := Lib.hid hrow
    clear hrow C hcs hBs
    go_wp2_with fail
    refine cS.mono ?_
    rintro e w' ⟨rfl, k, os, rfl⟩
    have ho := ownsRow_sorted_i (w := W) (n := k) (base := w.heap.size) (e := 3) (os := os) (ss := zs) (ts := zs.mergeSort fun x y => decide (x ≤ y)) (List.length_mergeSort _) hbase hgb r1 r2 r3
    have hb2 : Below w.heap.size w (grow (putRow encZ (Sort.ahead W k) g 0 (zs.mergeSort fun x y => decide (x ≤ y)).toArray) os) := hB.grown (grownBy_sorted_i _) hB.size (fun j hj => by cases hj; exact hbase)
    generalize grow (putRow encZ (Sort.ahead W k) g 0 (zs.mergeSort fun x y => decide (x ≤ y)).toArray) os = w5 at ho hb2 ⊢
    go_wp2_with fail
    go_ret
    obtain ⟨hl, hr⟩ := ho
    have hlen : (sortI zs).length = zs.length := sortI_len zs
    rcases hr with ⟨h, _⟩ | ⟨g', cap', cur', he, hb', hg', s1, s2, s3, s4⟩
    · cases h
    · obtain ⟨rfl, rfl⟩ : g' = g ∧ cap' = cap := by
        simp only [Value.slice.injEq, Option.some.injEq, Addr.mk.injEq] at he
        exact ⟨he.1.1.symm, he.2.2.symm⟩
      refine ⟨g', cap', rfl, s1, s2, (Array.getElem?_eq_some_iff.1 hg').1, fun j hj => ?_, hb2⟩
      have hx : cur'.toList[j]? = some (.int .i64 ((sortI zs).getD j 0)) := by
        have h1 : (cur'.toList.take (zs.length * 1))[j]? = (List.map encZ (zs.mergeSort fun x y => decide (x ≤ y)))[j]? := by rw [s4]
        rw [List.getElem?_take_of_lt (by omega), List.getElem?_map] at h1
        rw [h1, show (zs.mergeSort fun x y => decide (x ≤ y)) = sortI zs from rfl, List.getD_eq_getElem?_getD, List.getElem?_eq_getElem (by omega : j < (sortI zs).length)]
        rfl
      have hx2 : cur'[j]? = some (.int .i64 ((sortI zs).getD j 0)) := by rw [← hx, Array.getElem?_toList]
      simp [World.cell?, hg', hx2]
end Go.Proofs.YthclepohilekaaaDoor
