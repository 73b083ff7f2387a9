/- bounds.All, walked. -/
import Derived.Test.YtldlandcjegikaaGreatDoorHK2
import Derived.Test.YtldlandcjegikaaGreatDoorHMat2
namespace Go.Proofs.YtldlandcjegikaaGreatDoor
open Go.RowKit
set_option linter.unusedVariables false
set_option linter.unusedSimpArgs false
def timeD (D : Nat → Nat → Int) (a b : Nat) : Prop := D a b < farI → timeB (D a b) = true ∧ timeB (-(D b a)) = true
def rowS (N : Nat) (D : Nat → Nat → Int) (i k : Nat) : List RSpan := (List.range N).map fun b => if b < k ∧ D i b < farI then ⟨-(D b i), D i b⟩ else ⟨0, 0⟩
def rowH (N : Nat) (D : Nat → Nat → Int) (i k : Nat) : List Bool := (List.range N).map fun b => decide (b < k ∧ D i b < farI)
def csS (N : Nat) (D : Nat → Nat → Int) (i k j : Nat) : Array Value := SCells (rowS N D j (if j = i then k else N))
def csH (N : Nat) (D : Nat → Nat → Int) (i k j : Nat) : Array Value := BCells (rowH N D j (if j = i then k else N))
def AllP (N : Nat) (zs : List REdge) (w w' : World) (e : Ending) : Prop :=
 ∃ (A : Option Addr) (n c : Nat) (B : Option Addr) (m d : Nat) (k : Int), e = .returned (.tuple #[.slice A n c, .slice B m d, errV k]) ∧ Below w.heap.size w w' ∧
  ((Sunk (Arc zs) N ∧ k = 7) ∨ (¬ Sunk (Arc zs) N ∧ ∃ D : Nat → Nat → Int, Tells (Arc zs) N D (fun a b => decide (D a b < farI)) ∧
   ((k = 1 ∧ ∃ a b, a < N ∧ b < N ∧ ¬ timeD D a b) ∨ (k = 0 ∧ (∀ a b, a < N → b < N → timeD D a b) ∧
    IsMat w' RSpan.cells 2 A n c N (fun a b => if D a b < farI then (⟨-(D b a), D a b⟩ : RSpan) else ⟨0, 0⟩) ∧ IsMat w' boolCells 1 B m d N (fun a b => decide (D a b < farI))))))
theorem infoSl2 : (Tryz.prog.info? 125).map (fun i => (i.zero, i.size, i.bytes)) = some (some (.slice none 0 0), 1, 24) := by kernel_rfl
theorem infoSl3 : (Tryz.prog.info? 124).map (fun i => (i.zero, i.size, i.bytes)) = some (some (.slice none 0 0), 1, 24) := by kernel_rfl
theorem made_n (N : Nat) : madeCells #[.slice none 0 0] N = ((List.range N).map fun j => if j < 0 then Value.slice (some ⟨(fun _ => 0 : Nat → Nat) j, 0, none⟩) N N else .slice none 0 0).toArray := by
 apply Array.ext'
 rw [toList_madeCells_one]
 simp only [Nat.not_lt_zero, if_false]
 apply List.ext_getElem?
 intro j
 simp only [List.getElem?_replicate, List.getElem?_map]
 by_cases hj : j < N
 ·rw [if_pos hj, List.getElem?_range hj]; rfl
 ·rw [if_neg hj, List.getElem?_eq_none (by simp; omega)]; rfl
theorem rowS_0 (N : Nat) (D : Nat → Nat → Int) (i : Nat) : rowS N D i 0 = List.replicate N ⟨0, 0⟩ := by
 unfold rowS
 apply List.ext_getElem?
 intro j
 rw [List.getElem?_replicate, List.getElem?_map]
 by_cases hj : j < N
 ·rw [if_pos hj, List.getElem?_range hj]; simp
 ·rw [if_neg hj, List.getElem?_eq_none (by simp; omega)]; rfl
theorem rowH_0 (N : Nat) (D : Nat → Nat → Int) (i : Nat) : rowH N D i 0 = List.replicate N false := by
 unfold rowH
 apply List.ext_getElem?
 intro j
 rw [List.getElem?_replicate, List.getElem?_map]
 by_cases hj : j < N
 ·rw [if_pos hj, List.getElem?_range hj]; simp
 ·rw [if_neg hj, List.getElem?_eq_none (by simp; omega)]; rfl
theorem rowS_skip {N : Nat} {D : Nat → Nat → Int} {i k : Nat} (h : ¬ D i k < farI) : rowS N D i (k + 1) = rowS N D i k := by
 unfold rowS
 apply List.map_congr_left
 intro b _
 by_cases e : b = k
 ·subst e; rw [if_neg (fun q => h q.2), if_neg (fun q => h q.2)]
 ·by_cases f : b < k
  ·simp [f, show b < k + 1 by omega]
  ·simp [f, show ¬ b < k + 1 by omega]
theorem rowH_skip {N : Nat} {D : Nat → Nat → Int} {i k : Nat} (h : ¬ D i k < farI) : rowH N D i (k + 1) = rowH N D i k := by
 unfold rowH
 apply List.map_congr_left
 intro b _
 by_cases e : b = k
 ·subst e; simp [h]
 ·by_cases f : b < k
  ·simp [f, show b < k + 1 by omega]
  ·simp [f, show ¬ b < k + 1 by omega]
theorem rowS_set {N : Nat} {D : Nat → Nat → Int} {i k : Nat} (hk : k < N) (h : D i k < farI) : (rowS N D i k).set k ⟨-(D k i), D i k⟩ = rowS N D i (k + 1) := by
 unfold rowS
 apply List.ext_getElem?
 intro j
 rw [List.getElem?_set]
 by_cases hj : j < N
 ·rw [List.getElem?_map, List.getElem?_map, List.getElem?_range hj]
  by_cases e : k = j
  ·subst e
   rw [if_pos rfl, if_pos (by simpa using hj)]
   simp [h]
  ·rw [if_neg e]
   by_cases f : j < k
   ·simp [f, show j < k + 1 by omega]
   ·simp [f, show ¬ j < k + 1 by omega]
 ·rw [if_neg (by omega), List.getElem?_eq_none (by simp; omega), List.getElem?_eq_none (by simp; omega)]
theorem rowH_set {N : Nat} {D : Nat → Nat → Int} {i k : Nat} (hk : k < N) (h : D i k < farI) : (rowH N D i k).set k true = rowH N D i (k + 1) := by
 unfold rowH
 apply List.ext_getElem?
 intro j
 rw [List.getElem?_set]
 by_cases hj : j < N
 ·rw [List.getElem?_map, List.getElem?_map, List.getElem?_range hj]
  by_cases e : k = j
  ·subst e
   rw [if_pos rfl, if_pos (by simpa using hj)]
   simp [h]
  ·rw [if_neg e]
   by_cases f : j < k
   ·simp [f, show j < k + 1 by omega]
   ·simp [f, show ¬ j < k + 1 by omega]
 ·rw [if_neg (by omega), List.getElem?_eq_none (by simp; omega), List.getElem?_eq_none (by simp; omega)]
theorem rowS_at {N : Nat} {D : Nat → Nat → Int} {i k j : Nat} (hj : j < N) : (rowS N D i k)[j]? = some (if j < k ∧ D i j < farI then ⟨-(D j i), D i j⟩ else ⟨0, 0⟩) := by
 unfold rowS
 rw [List.getElem?_map, List.getElem?_range hj]; rfl
theorem rowH_at {N : Nat} {D : Nat → Nat → Int} {i k j : Nat} (hj : j < N) : (rowH N D i k)[j]? = some (decide (j < k ∧ D i j < farI)) := by
 unfold rowH
 rw [List.getElem?_map, List.getElem?_range hj]; rfl
theorem csS_i (N : Nat) (D : Nat → Nat → Int) (i k : Nat) : csS N D i k i = SCells (rowS N D i k) := by unfold csS; rw [if_pos rfl]
theorem csH_i (N : Nat) (D : Nat → Nat → Int) (i k : Nat) : csH N D i k i = BCells (rowH N D i k) := by unfold csH; rw [if_pos rfl]
theorem csS_j {N : Nat} {D : Nat → Nat → Int} {i k j : Nat} (h : j ≠ i) : csS N D i k j = csS N D N N j := by
 unfold csS
 rw [if_neg h]
 split <;> rfl
theorem csH_j {N : Nat} {D : Nat → Nat → Int} {i k j : Nat} (h : j ≠ i) : csH N D i k j = csH N D N N j := by
 unfold csH
 rw [if_neg h]
 split <;> rfl
set_option maxRecDepth 100000 in
set_option maxHeartbeats 8000000 in
theorem bounds_All_ok (N : Nat) (A : Option Addr) (n c : Nat) (zs : List REdge) (w : World) (hz : IsRecs w REdge.cells REdge.ok 4 A n c zs) (hc : edgesC N zs = 0) :
  Calls Tryz.prog 98 #[.int .i64 N, .slice A n c] w fun e w' => AllP N zs w w' e := by
 have HZ := Lib.hid hz
 obtain ⟨c4, c5, c6, c7⟩ := edgesC_0 hc
 simp only [Int.toNat_natCast] at c7
 have hm1 := hz.2.1
 have hm2 := hz.2.2.1
 have hln := hz.1
 unfold maxLen at hm2
 have hn40 : n ≤ 40 := by omega
 have C := Lib.hid (bounds_Check N A n c zs w hz)
 rw [hc] at C
 have C7 := Lib.hid c7
 have C2 := Lib.hid (fun w' (hb : Below w.heap.size w w') => bounds_closed N A n c zs w' (hz.below hb) (by omega) (by omega) hn40 c7)
 clear hz hc c7 hln
 have mk1 := run_make_row' (P := Tryz.prog) 120 125 (.slice none 0 0) 24 Tryz.underlying120 infoSl2 rfl .i64 .i64 N (by omega) (by omega)
 have mk2 := run_make_row' (P := Tryz.prog) 121 124 (.slice none 0 0) 24 Tryz.underlying121 infoSl3 rfl .i64 .i64 N (by omega) (by omega)
 have mk3 := make_spans N (by omega)
 have mk4 := run_make_row' (P := Tryz.prog) 124 4 (.bool false) 1 Tryz.underlying124 infoB rfl .i64 .i64 N (by omega) (by omega)
 rw [made_n] at mk1 mk2
 rw [made_b] at mk4
 go_enter Tryz.func98, Tryz.ntmps98
 go_wp2_with fail
 refine C.out.mono ?_
 rintro e w1 ⟨rfl, hb1⟩
 have HB1 := Lib.hid hb1
 clear hb1
 go_wp2_with fail
 refine (C2.out _ HB1.out).mono ?_
 rintro e w2 ⟨D, ok, rfl, hM, hok, hno, hb2⟩
 have HB2 := Lib.hid (HB1.out.trans (hb2.mono HB1.out.size))
 have HM := Lib.hid hM
 have HOK := Lib.hid hok
 have HNO := Lib.hid hno
 clear hM hok hno hb2
 cases ok
 ·go_wp2_with fail
  refine bodyPost_ret (v := .tuple #[.slice none 0 0, .slice none 0 0, .iface 88 (.int .i64 7)]) (by simp [results, Tryz.results98, go_sem]) rfl ?_
  exact ⟨none, 0, 0, none, 0, 0, 7, rfl, HB2.out, .inl ⟨HNO.out (by first | rfl | trivial), rfl⟩⟩
 ·obtain ⟨t1, t2, t3⟩ := HOK.out (by first | rfl | trivial)
  have T1 := Lib.hid t1
  have T2 := Lib.hid t2
  have T3 := Lib.hid t3
  clear t1 t2 t3 HOK HNO
  go_upto_region 7 with fail
  go_cut [10, 11] (fun u v wx => ∃ g1 g2, u = .slice (some ⟨g1, 0, none⟩) N N ∧ v = .slice (some ⟨g2, 0, none⟩) N N ∧
   RowsAt wx w2.heap.size g1 N 0 (fun _ => 0) 125 34 (csS N D 0 0) ∧ RowsAt wx w2.heap.size g2 N 0 (fun _ => 0) 124 4 (csH N D 0 0) ∧ Below w2.heap.size w2 wx)
  case first =>
   go_region
   all_goals
    go_wp2_with fail
    go_meet
    case rel =>
     refine ⟨_, _, rfl, rfl, ?_, ?_, BeL⟩
     ·first
      | exact RowsAt.init (((Blk.new w2 _ _).alloc _).drewN 1) (by omega)
      | exact RowsAt.init ((Blk.newAt2 w2 _ _ _).drewN 1) (by omega)
     ·first
      | exact RowsAt.init (((Blk.new w2 _ _).alloc _).drewN 1) (by omega)
      | exact RowsAt.init ((Blk.newAt2 w2 _ _ _).drewN 1) (by omega)
  case rest =>
   obtain ⟨g1, g2, rfl, rfl, hR1, hR2, hbc⟩ := hcut
   have HR1 := Lib.hid hR1
   have HR2 := Lib.hid hR2
   have HBC := Lib.hid hbc
   have hMz := HM.out.lt (j := N - 1) (by omega)
   clear hR1 hR2 hbc mk1 mk2
   go_wp2_with fail
   go_loopw [35] (fun iv wx => ∃ (i : Nat) (ρ σ : Nat → Nat), iv = .int .i64 i ∧ i ≤ N ∧ RowsAt wx w2.heap.size g1 N i ρ 125 34 (csS N D N N) ∧ RowsAt wx w2.heap.size g2 N i σ 124 4 (csH N D N N) ∧
    (∀ a b, a < i → b < N → timeD D a b) ∧ Below w2.heap.size w2 wx) (fun iv _ => N - (intOf iv).toNat)
   case atStart => exact ⟨0, _, _, rfl, by omega, HR1.out.congr (fun k hk => absurd hk (by omega)), HR2.out.congr (fun k hk => absurd hk (by omega)), fun a b ha => absurd ha (by omega), HBC.out⟩
   case round =>
    obtain ⟨i, ρ, σ, rfl, hi, hR1, hR2, hT, hB⟩ := hrel
    have HR1 := Lib.hid hR1
    have HR2 := Lib.hid hR2
    have HT := Lib.hid hT
    have HB := Lib.hid hB
    have hzw := hB.size
    have f1 := hR1.outer.fz i
    have f2 := hR2.outer.fz i
    have g1l := hR1.outer.lt
    have g2l := hR2.outer.lt
    have g12 : g1 ≠ g2 := hR1.outer.type_ne hR2.outer (by decide)
    have old1 := Lib.hid (show ∀ j, j < i → ρ j ≠ g1 ∧ ρ j ≠ g2 ∧ ρ j < wr.heap.size from fun j hj => ⟨fun q => hR1.outer.type_ne (hR1.rows j hj) (by decide) q.symm, fun q => hR2.outer.type_ne (hR1.rows j hj) (by decide) q.symm, (hR1.rows j hj).lt⟩)
    have old2 := Lib.hid (show ∀ j, j < i → σ j ≠ g1 ∧ σ j ≠ g2 ∧ σ j < wr.heap.size from fun j hj => ⟨fun q => hR1.outer.type_ne (hR2.rows j hj) (by decide) q.symm, fun q => hR2.outer.type_ne (hR2.rows j hj) (by decide) q.symm, (hR2.rows j hj).lt⟩)
    have n1 := fun (h : i < N) => hR1.cnil h
    have n2 := fun (h : i < N) => hR2.cnil h
    clear hR1 hR2 hT hB
    by_cases d1 : i < N
    ·have n1 := n1 d1
     have n2 := n2 d1
     have k0 : (0 : Int) ≤ (i : Int) := by omega
     have k1 : (i : Int) < (N : Int) := by omega
     go_wp2_with fail
     go_region
     ·(skip)
      have HA := Lib.hid (show RowsAt ((((wr.setCell ⟨g1, i, none⟩ (.slice (some ⟨wr.heap.size, 0, none⟩) N N)).setCell ⟨g2, i, none⟩ (.slice (some ⟨(wr.heap.size + 1), 0, none⟩) N N)).alloc (.cells (SCells (List.replicate N ⟨0, 0⟩)) 34)).alloc (.cells (BCells (List.replicate N false)) 4)).drew w2.heap.size g1 N (i + 1) (fun j => if j = i then wr.heap.size else ρ j) 125 34 (csS N D i 0) from
       HR1.out.grow (((((HR1.out.outer.set i _).far (by simp; omega) _).alloc _).alloc _).drew)
        (by
         have h := (((Blk.new _ _ _).alloc _) : Blk ((((wr.setCell ⟨g1, i, none⟩ (.slice (some ⟨wr.heap.size, 0, none⟩) N N)).setCell ⟨g2, i, none⟩ (.slice (some ⟨(wr.heap.size + 1), 0, none⟩) N N)).alloc (.cells (SCells (List.replicate N ⟨0, 0⟩)) 34)).alloc (.cells (BCells (List.replicate N false)) 4)) (((wr.setCell ⟨g1, i, none⟩ (.slice (some ⟨wr.heap.size, 0, none⟩) N N)).setCell ⟨g2, i, none⟩ (.slice (some ⟨(wr.heap.size + 1), 0, none⟩) N N)).heap.size) 34 (SCells (List.replicate N ⟨0, 0⟩)))
         rw [csS_i, rowS_0]
         simpa using h.drew) (by omega)
        (fun j hj => by
         rw [csS_j (by omega)]
         exact (((((HR1.out.rows j hj).far (old1.out j hj).1 _).far (old1.out j hj).2.1 _).alloc _).alloc _).drew)
        (fun j hj => by have := (old1.out j hj).2.2; omega))
      have HC := Lib.hid (show RowsAt ((((wr.setCell ⟨g1, i, none⟩ (.slice (some ⟨wr.heap.size, 0, none⟩) N N)).setCell ⟨g2, i, none⟩ (.slice (some ⟨(wr.heap.size + 1), 0, none⟩) N N)).alloc (.cells (SCells (List.replicate N ⟨0, 0⟩)) 34)).alloc (.cells (BCells (List.replicate N false)) 4)).drew w2.heap.size g2 N (i + 1) (fun j => if j = i then (wr.heap.size + 1) else σ j) 124 4 (csH N D i 0) from
       HR2.out.grow (((((HR2.out.outer.far (by simp; omega) _).set i _).alloc _).alloc _).drew)
        (by
         have h := ((Blk.newAt2 _ _ _ _) : Blk ((((wr.setCell ⟨g1, i, none⟩ (.slice (some ⟨wr.heap.size, 0, none⟩) N N)).setCell ⟨g2, i, none⟩ (.slice (some ⟨(wr.heap.size + 1), 0, none⟩) N N)).alloc (.cells (SCells (List.replicate N ⟨0, 0⟩)) 34)).alloc (.cells (BCells (List.replicate N false)) 4)) (((wr.setCell ⟨g1, i, none⟩ (.slice (some ⟨wr.heap.size, 0, none⟩) N N)).setCell ⟨g2, i, none⟩ (.slice (some ⟨(wr.heap.size + 1), 0, none⟩) N N)).heap.size + 1) 4 (BCells (List.replicate N false)))
         rw [csH_i, rowH_0]
         simpa using h.drew) (by omega)
        (fun j hj => by
         rw [csH_j (by omega)]
         exact (((((HR2.out.rows j hj).far (old2.out j hj).1 _).far (old2.out j hj).2.1 _).alloc _).alloc _).drew)
        (fun j hj => by have := (old2.out j hj).2.2; omega))
      have HB5 := Lib.hid (show Below w2.heap.size w2 ((((wr.setCell ⟨g1, i, none⟩ (.slice (some ⟨wr.heap.size, 0, none⟩) N N)).setCell ⟨g2, i, none⟩ (.slice (some ⟨(wr.heap.size + 1), 0, none⟩) N N)).alloc (.cells (SCells (List.replicate N ⟨0, 0⟩)) 34)).alloc (.cells (BCells (List.replicate N false)) 4)).drew from ((((HB.out.setCell HR1.out.base _).setCell HR2.out.base _).alloc (by simp; omega) _).alloc (by simp; omega) _).drew)
      generalize ((((wr.setCell ⟨g1, i, none⟩ (.slice (some ⟨wr.heap.size, 0, none⟩) N N)).setCell ⟨g2, i, none⟩ (.slice (some ⟨(wr.heap.size + 1), 0, none⟩) N N)).alloc (.cells (SCells (List.replicate N ⟨0, 0⟩)) 34)).alloc (.cells (BCells (List.replicate N false)) 4)).drew = w5 at HA HC HB5 ⊢
      generalize (fun j => if j = i then wr.heap.size else ρ j) = ρ1 at HA
      generalize (fun j => if j = i then (wr.heap.size + 1) else σ j) = σ1 at HC
      clear f1 f2 g1l g2l n1 n2 HR1 HR2 HB hzw
      go_wp2_with fail
      obtain ⟨wo, rfl⟩ : ∃ wo : World, wo = w5 := ⟨_, rfl⟩
      go_loopw [49] (fun kv wx => ∃ k : Nat, kv = .int .i64 k ∧ k ≤ N ∧ RowsAt wx w2.heap.size g1 N (i + 1) ρ1 125 34 (csS N D i k) ∧ RowsAt wx w2.heap.size g2 N (i + 1) σ1 124 4 (csH N D i k) ∧
       (∀ b, b < k → timeD D i b) ∧ Below w2.heap.size w2 wx) (fun kv _ => N - (intOf kv).toNat)
      case atStart => exact ⟨0, rfl, by omega, HA.out, HC.out, fun b hb => absurd hb (by omega), HB5.out⟩
      case round =>
       obtain ⟨k, rfl, hk, hR1, hR2, hT2, hB⟩ := hrel
       have HR1 := Lib.hid hR1
       have HR2 := Lib.hid hR2
       have HT2 := Lib.hid hT2
       have HB := Lib.hid hB
       have hzw := hB.size
       clear hR1 hR2 hT2 hB
       by_cases d2 : k < N
       ·have d2' : decide ((k : Int) < (N : Int)) = true := by simp; omega
        have k2 : (0 : Int) ≤ (k : Int) := by omega
        have k3 : (k : Int) < (N : Int) := by omega
        have HMx := Lib.hid (HM.out.below HB.out (by omega) (by omega))
        have xs1 := HMx.out.csl (j := i) (by omega) (by omega)
        have xc1 := HMx.out.cat (j := i) (k := k) (by omega) (by omega)
        have tb1 := T3.out i k d1 d2
        have tb2 := T3.out k i d2 d1
        obtain ⟨v1, hv1⟩ : ∃ v, D i k = v := ⟨_, rfl⟩
        obtain ⟨v2, hv2⟩ : ∃ v, D k i = v := ⟨_, rfl⟩
        rw [hv1] at xc1 tb1
        rw [hv2] at tb2
        have HV1 := Lib.hid hv1
        have HV2 := Lib.hid hv2
        unfold farI at tb1 tb2
        clear hv1 hv2
        by_cases e1 : v1 = 1152921504606846976
        ·have e2 : (v1 == 1152921504606846976) = true := by simpa using e1
         have hf : ¬ D i k < farI := by rw [HV1.out]; unfold farI; omega
         have HS1 := Lib.hid (HR1.out.congr (cs' := csS N D i (k + 1)) (fun j hj => by
          by_cases e : j = i
          ·subst e; rw [csS_i, csS_i, rowS_skip hf]
          ·rw [csS_j e, csS_j e]))
         have HS2 := Lib.hid (HR2.out.congr (cs' := csH N D i (k + 1)) (fun j hj => by
          by_cases e : j = i
          ·subst e; rw [csH_i, csH_i, rowH_skip hf]
          ·rw [csH_j e, csH_j e]))
         have HT3 := Lib.hid (show ∀ b, b < k + 1 → timeD D i b from fun b hb => by
          by_cases e : b = k
          ·subst e; exact fun q => absurd q hf
          ·exact HT2.out b (by omega))
         clear tb1 tb2 e1 hf
         go_wp2_with fail
         go_roundw
         case rel => exact ⟨k + 1, by go_num, by omega, HS1.out, HS2.out, HT3.out, HB.out⟩
         case measure => simp [intOf]; omega
        ·have e2 : (v1 == 1152921504606846976) = false := by simpa using e1
         have hf : D i k < farI := by rw [HV1.out]; unfold farI; omega
         have HF := Lib.hid hf
         have b1 : -46656000000000000 ≤ v1 := by omega
         have b2 : v1 ≤ 46656000000000000 := by omega
         have b3 : -46656000000000000 ≤ v2 := by omega
         have b4 : v2 ≤ 1152921504606846976 := by omega
         have gl0 : w1.heap.size < wr.heap.size := by omega
         have gl1 := HMx.out.lt (j := i) (by omega)
         have gl2 := HMx.out.lt (j := k) (by omega)
         have xs2 := HMx.out.csl (j := k) (by omega) (by omega)
         have xc2 := HMx.out.cat (j := k) (k := i) (by omega) (by omega)
         rw [HV2.out] at xc2
         clear tb1 tb2 e1 hf
         go_wp2_with fail
         go_region
         have hbox : ∃ w6, (wr.alloc (.cells #[.int .i64 (-v2), .int .i64 v1] 34)).drew = w6 ∧ wr.heap.size < w6.heap.size ∧ Below wr.heap.size wr w6 ∧ w6.cell? ⟨wr.heap.size, 0, none⟩ = some (.int .i64 (-v2)) ∧ w6.cell? ⟨wr.heap.size, 1, none⟩ = some (.int .i64 v1) :=
          ⟨_, rfl, by simp, BeL, by simp, by simp⟩
         obtain ⟨w6, hw6, hs6, hb6, y0, y1⟩ := hbox
         obtain ⟨sb, hsb⟩ : ∃ sb, wr.heap.size = sb := ⟨_, rfl⟩
         have HA6 := Lib.hid (HR1.out.below hb6)
         have HC6 := Lib.hid (HR2.out.below hb6)
         have HB6 := Lib.hid (HB.out.trans (hb6.mono hzw))
         have hsbl : w2.heap.size ≤ sb := by omega
         have SBN := Lib.hid (show (∀ j, j < i + 1 → ρ1 j < sb) ∧ ∀ j, j < i + 1 → σ1 j < sb from ⟨fun j hj => by have := HR1.out.lt hj; omega, fun j hj => by have := HR2.out.lt hj; omega⟩)
         have G1 : g1 < sb := by have := HR1.out.outer.lt; omega
         have G2 : g2 < sb := by have := HR2.out.outer.lt; omega
         rw [hsb] at y0 y1 hs6
         simp only [hw6, hsb]
         clear hw6 hb6 xs1 xs2 xc1 xc2 gl0 gl1 gl2 HR1 HR2 HB hzw HMx hsb
         cases ta : timeB (-v2)
         ·have HNT := Lib.hid (show ¬ timeD D i k from fun q => by have q2 := (q HF.out).2; rw [HV2.out, ta] at q2; cases q2)
          go_wp2_with (go_at_call 54; refine (Time_any _ _).mono ?_; rintro e w' ⟨rfl, rfl⟩)
          refine bodyPost_ret (v := .tuple #[.slice none 0 0, .slice none 0 0, .iface 88 (.int .i64 1)]) (by simp [results, Tryz.results98, go_sem]) rfl ?_
          exact ⟨none, 0, 0, none, 0, 0, 1, rfl, HB2.out.trans (HB6.out.mono HB2.out.size), .inr ⟨T1.out, D, T2.out, .inl ⟨rfl, i, k, d1, d2, HNT.out⟩⟩⟩
         ·cases tb : timeB v1
          ·have HNT := Lib.hid (show ¬ timeD D i k from fun q => by have q2 := (q HF.out).1; rw [HV1.out, tb] at q2; cases q2)
           go_wp2_with (go_at_call 54; refine (Time_any _ _).mono ?_; rintro e w' ⟨rfl, rfl⟩)
           refine bodyPost_ret (v := .tuple #[.slice none 0 0, .slice none 0 0, .iface 88 (.int .i64 1)]) (by simp [results, Tryz.results98, go_sem]) rfl ?_
           exact ⟨none, 0, 0, none, 0, 0, 1, rfl, HB2.out.trans (HB6.out.mono HB2.out.size), .inr ⟨T1.out, D, T2.out, .inl ⟨rfl, i, k, d1, d2, HNT.out⟩⟩⟩
          ·have HTT := Lib.hid (show timeD D i k from fun _ => ⟨by rw [HV1.out]; exact tb, by rw [HV2.out]; exact ta⟩)
           have xs3 := HA6.out.csl (j := i) (by omega) (by omega)
           have xs4 := HC6.out.csl (j := i) (by omega) (by omega)
           have hr1 := HA6.out.rows i (by omega)
           have hr2 := HC6.out.rows i (by omega)
           rw [csS_i] at hr1
           rw [csH_i] at hr2
           have z0 := hr1.sat0 (rowS_at (D := D) (i := i) (k := k) d2)
           have z1 := hr1.sat1 (rowS_at (D := D) (i := i) (k := k) d2)
           have z2 := hr2.bat (rowH_at (D := D) (i := i) (k := k) d2)
           rw [if_neg (by omega)] at z0 z1
           have zf1 := fun o => hr1.fz o
           have zf2 := fun o => hr2.fz o
           have zn : ρ1 i ≠ σ1 i := hr1.type_ne hr2 (by decide)
           have zl1 := hr1.lt
           have zl2 := hr2.lt
           have HH1 := Lib.hid hr1
           have HH2 := Lib.hid hr2
           obtain ⟨r1, hr1'⟩ : ∃ r, ρ1 i = r := ⟨_, rfl⟩
           obtain ⟨r2, hr2'⟩ : ∃ r, σ1 i = r := ⟨_, rfl⟩
           rw [hr1'] at xs3 z0 z1 zf1 zn zl1
           rw [hr2'] at xs4 z2 zf2 zn zl2
           have HRR1 := Lib.hid hr1'
           have HRR2 := Lib.hid hr2'
           clear hr1 hr2 hr1' hr2'
           go_wp2_with (go_at_call 54; refine (Time_any _ _).mono ?_; rintro e w' ⟨rfl, rfl⟩)
           go_region
           have HN1 := Lib.hid (show RowsAt ((((w6.setCell ⟨r1, k * 2, none⟩ (.int .i64 (-v2))).setCell ⟨r1, k * 2 + 1, none⟩ (.int .i64 v1)).setCell ⟨r2, k, none⟩ (.bool true)).drew) w2.heap.size g1 N (i + 1) ρ1 125 34 (csS N D i (k + 1)) by
            have hk2 := HC6.out.rows i (by omega)
            have h0 := HA6.out.span (cs' := csS N D i (k + 1)) (j := i) (k := k) (by omega) (by decide) HH1.out (-v2) v1 (by
             rw [csS_i, ← rowS_set d2 HF.out, HV1.out, HV2.out]) (fun m hm hne => by rw [csS_j hne, csS_j hne])
            rw [HRR1.out] at h0
            rw [HRR2.out] at hk2
            exact (h0.far (p := ⟨r2, k, none⟩) (fun q => HA6.out.outer.type_ne hk2 (by decide) q) (fun j hj q => (HA6.out.rows j hj).type_ne hk2 (by decide) q) _).drewN 1)
           have HN2 := Lib.hid (show RowsAt ((((w6.setCell ⟨r1, k * 2, none⟩ (.int .i64 (-v2))).setCell ⟨r1, k * 2 + 1, none⟩ (.int .i64 v1)).setCell ⟨r2, k, none⟩ (.bool true)).drew) w2.heap.size g2 N (i + 1) σ1 124 4 (csH N D i (k + 1)) by
            have hk1 := HA6.out.rows i (by omega)
            rw [HRR1.out] at hk1
            have h1 := (HC6.out.far (p := ⟨r1, k * 2, none⟩) (fun q => HC6.out.outer.type_ne hk1 (by decide) q) (fun j hj q => (HC6.out.rows j hj).type_ne hk1 (by decide) q) (.int .i64 (-v2))).far (p := ⟨r1, k * 2 + 1, none⟩) (fun q => HC6.out.outer.type_ne hk1 (by decide) q) (fun j hj q => (HC6.out.rows j hj).type_ne hk1 (by decide) q) (.int .i64 v1)
            have h2 := h1.rows i (by omega)
            rw [csH_i] at h2
            have h0 := h1.bool (cs' := csH N D i (k + 1)) (j := i) (k := k) (by omega) (by decide) h2 true (by
             rw [csH_i, ← rowH_set d2 HF.out]) (fun m hm hne => by rw [csH_j hne, csH_j hne])
            rw [HRR2.out] at h0
            exact h0.drewN 1)
           have HNB := Lib.hid (show Below w2.heap.size w2 ((((w6.setCell ⟨r1, k * 2, none⟩ (.int .i64 (-v2))).setCell ⟨r1, k * 2 + 1, none⟩ (.int .i64 v1)).setCell ⟨r2, k, none⟩ (.bool true)).drew) by
            have o1 := HA6.out.old i (by omega)
            have o2 := HC6.out.old i (by omega)
            rw [HRR1.out] at o1
            rw [HRR2.out] at o2
            exact (((HB6.out.setCell o1 _).setCell o1 _).setCell o2 _).drew)
           have HT3 := Lib.hid (show ∀ b, b < k + 1 → timeD D i b from fun b hb => by
            by_cases e : b = k
            ·subst e; exact HTT.out
            ·exact HT2.out b (by omega))
           clear xs3 xs4 z0 z1 z2 zf1 zf2 y0 y1
           go_wp2_with fail
           go_roundw
           case rel => exact ⟨k + 1, by go_num, by omega, HN1.out, HN2.out, HT3.out, HNB.out⟩
           case measure => simp [intOf]; omega
       ·obtain rfl : k = N := by omega
        have HE1 := Lib.hid (HR1.out.congr (cs' := csS k D k k) (fun j hj => by
         by_cases e : j = i
         ·subst e; rw [csS_i]; unfold csS; split <;> rfl
         ·rw [csS_j e]))
        have HE2 := Lib.hid (HR2.out.congr (cs' := csH k D k k) (fun j hj => by
         by_cases e : j = i
         ·subst e; rw [csH_i]; unfold csH; split <;> rfl
         ·rw [csH_j e]))
        have HT3 := Lib.hid (show ∀ a b, a < i + 1 → b < k → timeD D a b from fun a b ha hb => by
         by_cases e : a = i
         ·subst e; exact HT2.out b hb
         ·exact HT.out a b (by omega) hb)
        go_wp2_with fail
        go_roundw
        case rel => exact ⟨i + 1, ρ1, σ1, by go_num, by omega, HE1.out, HE2.out, HT3.out, HB.out⟩
        case measure => simp [intOf]; omega

     ·(skip)
      have HA := Lib.hid (show RowsAt ((((wr.setCell ⟨g1, i, none⟩ (.slice (some ⟨(wr.heap.size + 1), 0, none⟩) N N)).setCell ⟨g2, i, none⟩ (.slice (some ⟨wr.heap.size, 0, none⟩) N N)).alloc (.cells (BCells (List.replicate N false)) 4)).alloc (.cells (SCells (List.replicate N ⟨0, 0⟩)) 34)).drew w2.heap.size g1 N (i + 1) (fun j => if j = i then (wr.heap.size + 1) else ρ j) 125 34 (csS N D i 0) from
       HR1.out.grow (((((HR1.out.outer.set i _).far (by simp; omega) _).alloc _).alloc _).drew)
        (by
         have h := ((Blk.newAt2 _ _ _ _) : Blk ((((wr.setCell ⟨g1, i, none⟩ (.slice (some ⟨(wr.heap.size + 1), 0, none⟩) N N)).setCell ⟨g2, i, none⟩ (.slice (some ⟨wr.heap.size, 0, none⟩) N N)).alloc (.cells (BCells (List.replicate N false)) 4)).alloc (.cells (SCells (List.replicate N ⟨0, 0⟩)) 34)) (((wr.setCell ⟨g1, i, none⟩ (.slice (some ⟨(wr.heap.size + 1), 0, none⟩) N N)).setCell ⟨g2, i, none⟩ (.slice (some ⟨wr.heap.size, 0, none⟩) N N)).heap.size + 1) 34 (SCells (List.replicate N ⟨0, 0⟩)))
         rw [csS_i, rowS_0]
         simpa using h.drew) (by omega)
        (fun j hj => by
         rw [csS_j (by omega)]
         exact (((((HR1.out.rows j hj).far (old1.out j hj).1 _).far (old1.out j hj).2.1 _).alloc _).alloc _).drew)
        (fun j hj => by have := (old1.out j hj).2.2; omega))
      have HC := Lib.hid (show RowsAt ((((wr.setCell ⟨g1, i, none⟩ (.slice (some ⟨(wr.heap.size + 1), 0, none⟩) N N)).setCell ⟨g2, i, none⟩ (.slice (some ⟨wr.heap.size, 0, none⟩) N N)).alloc (.cells (BCells (List.replicate N false)) 4)).alloc (.cells (SCells (List.replicate N ⟨0, 0⟩)) 34)).drew w2.heap.size g2 N (i + 1) (fun j => if j = i then wr.heap.size else σ j) 124 4 (csH N D i 0) from
       HR2.out.grow (((((HR2.out.outer.far (by simp; omega) _).set i _).alloc _).alloc _).drew)
        (by
         have h := (((Blk.new _ _ _).alloc _) : Blk ((((wr.setCell ⟨g1, i, none⟩ (.slice (some ⟨(wr.heap.size + 1), 0, none⟩) N N)).setCell ⟨g2, i, none⟩ (.slice (some ⟨wr.heap.size, 0, none⟩) N N)).alloc (.cells (BCells (List.replicate N false)) 4)).alloc (.cells (SCells (List.replicate N ⟨0, 0⟩)) 34)) (((wr.setCell ⟨g1, i, none⟩ (.slice (some ⟨(wr.heap.size + 1), 0, none⟩) N N)).setCell ⟨g2, i, none⟩ (.slice (some ⟨wr.heap.size, 0, none⟩) N N)).heap.size) 4 (BCells (List.replicate N false)))
         rw [csH_i, rowH_0]
         simpa using h.drew) (by omega)
        (fun j hj => by
         rw [csH_j (by omega)]
         exact (((((HR2.out.rows j hj).far (old2.out j hj).1 _).far (old2.out j hj).2.1 _).alloc _).alloc _).drew)
        (fun j hj => by have := (old2.out j hj).2.2; omega))
      have HB5 := Lib.hid (show Below w2.heap.size w2 ((((wr.setCell ⟨g1, i, none⟩ (.slice (some ⟨(wr.heap.size + 1), 0, none⟩) N N)).setCell ⟨g2, i, none⟩ (.slice (some ⟨wr.heap.size, 0, none⟩) N N)).alloc (.cells (BCells (List.replicate N false)) 4)).alloc (.cells (SCells (List.replicate N ⟨0, 0⟩)) 34)).drew from ((((HB.out.setCell HR1.out.base _).setCell HR2.out.base _).alloc (by simp; omega) _).alloc (by simp; omega) _).drew)
      generalize ((((wr.setCell ⟨g1, i, none⟩ (.slice (some ⟨(wr.heap.size + 1), 0, none⟩) N N)).setCell ⟨g2, i, none⟩ (.slice (some ⟨wr.heap.size, 0, none⟩) N N)).alloc (.cells (BCells (List.replicate N false)) 4)).alloc (.cells (SCells (List.replicate N ⟨0, 0⟩)) 34)).drew = w5 at HA HC HB5 ⊢
      generalize (fun j => if j = i then (wr.heap.size + 1) else ρ j) = ρ1 at HA
      generalize (fun j => if j = i then wr.heap.size else σ j) = σ1 at HC
      clear f1 f2 g1l g2l n1 n2 HR1 HR2 HB hzw
      go_wp2_with fail
      obtain ⟨wo, rfl⟩ : ∃ wo : World, wo = w5 := ⟨_, rfl⟩
      go_loopw [49] (fun kv wx => ∃ k : Nat, kv = .int .i64 k ∧ k ≤ N ∧ RowsAt wx w2.heap.size g1 N (i + 1) ρ1 125 34 (csS N D i k) ∧ RowsAt wx w2.heap.size g2 N (i + 1) σ1 124 4 (csH N D i k) ∧
       (∀ b, b < k → timeD D i b) ∧ Below w2.heap.size w2 wx) (fun kv _ => N - (intOf kv).toNat)
      case atStart => exact ⟨0, rfl, by omega, HA.out, HC.out, fun b hb => absurd hb (by omega), HB5.out⟩
      case round =>
       obtain ⟨k, rfl, hk, hR1, hR2, hT2, hB⟩ := hrel
       have HR1 := Lib.hid hR1
       have HR2 := Lib.hid hR2
       have HT2 := Lib.hid hT2
       have HB := Lib.hid hB
       have hzw := hB.size
       clear hR1 hR2 hT2 hB
       by_cases d2 : k < N
       ·have d2' : decide ((k : Int) < (N : Int)) = true := by simp; omega
        have k2 : (0 : Int) ≤ (k : Int) := by omega
        have k3 : (k : Int) < (N : Int) := by omega
        have HMx := Lib.hid (HM.out.below HB.out (by omega) (by omega))
        have xs1 := HMx.out.csl (j := i) (by omega) (by omega)
        have xc1 := HMx.out.cat (j := i) (k := k) (by omega) (by omega)
        have tb1 := T3.out i k d1 d2
        have tb2 := T3.out k i d2 d1
        obtain ⟨v1, hv1⟩ : ∃ v, D i k = v := ⟨_, rfl⟩
        obtain ⟨v2, hv2⟩ : ∃ v, D k i = v := ⟨_, rfl⟩
        rw [hv1] at xc1 tb1
        rw [hv2] at tb2
        have HV1 := Lib.hid hv1
        have HV2 := Lib.hid hv2
        unfold farI at tb1 tb2
        clear hv1 hv2
        by_cases e1 : v1 = 1152921504606846976
        ·have e2 : (v1 == 1152921504606846976) = true := by simpa using e1
         have hf : ¬ D i k < farI := by rw [HV1.out]; unfold farI; omega
         have HS1 := Lib.hid (HR1.out.congr (cs' := csS N D i (k + 1)) (fun j hj => by
          by_cases e : j = i
          ·subst e; rw [csS_i, csS_i, rowS_skip hf]
          ·rw [csS_j e, csS_j e]))
         have HS2 := Lib.hid (HR2.out.congr (cs' := csH N D i (k + 1)) (fun j hj => by
          by_cases e : j = i
          ·subst e; rw [csH_i, csH_i, rowH_skip hf]
          ·rw [csH_j e, csH_j e]))
         have HT3 := Lib.hid (show ∀ b, b < k + 1 → timeD D i b from fun b hb => by
          by_cases e : b = k
          ·subst e; exact fun q => absurd q hf
          ·exact HT2.out b (by omega))
         clear tb1 tb2 e1 hf
         go_wp2_with fail
         go_roundw
         case rel => exact ⟨k + 1, by go_num, by omega, HS1.out, HS2.out, HT3.out, HB.out⟩
         case measure => simp [intOf]; omega
        ·have e2 : (v1 == 1152921504606846976) = false := by simpa using e1
         have hf : D i k < farI := by rw [HV1.out]; unfold farI; omega
         have HF := Lib.hid hf
         have b1 : -46656000000000000 ≤ v1 := by omega
         have b2 : v1 ≤ 46656000000000000 := by omega
         have b3 : -46656000000000000 ≤ v2 := by omega
         have b4 : v2 ≤ 1152921504606846976 := by omega
         have gl0 : w1.heap.size < wr.heap.size := by omega
         have gl1 := HMx.out.lt (j := i) (by omega)
         have gl2 := HMx.out.lt (j := k) (by omega)
         have xs2 := HMx.out.csl (j := k) (by omega) (by omega)
         have xc2 := HMx.out.cat (j := k) (k := i) (by omega) (by omega)
         rw [HV2.out] at xc2
         clear tb1 tb2 e1 hf
         go_wp2_with fail
         go_region
         have hbox : ∃ w6, (wr.alloc (.cells #[.int .i64 (-v2), .int .i64 v1] 34)).drew = w6 ∧ wr.heap.size < w6.heap.size ∧ Below wr.heap.size wr w6 ∧ w6.cell? ⟨wr.heap.size, 0, none⟩ = some (.int .i64 (-v2)) ∧ w6.cell? ⟨wr.heap.size, 1, none⟩ = some (.int .i64 v1) :=
          ⟨_, rfl, by simp, BeL, by simp, by simp⟩
         obtain ⟨w6, hw6, hs6, hb6, y0, y1⟩ := hbox
         obtain ⟨sb, hsb⟩ : ∃ sb, wr.heap.size = sb := ⟨_, rfl⟩
         have HA6 := Lib.hid (HR1.out.below hb6)
         have HC6 := Lib.hid (HR2.out.below hb6)
         have HB6 := Lib.hid (HB.out.trans (hb6.mono hzw))
         have hsbl : w2.heap.size ≤ sb := by omega
         have SBN := Lib.hid (show (∀ j, j < i + 1 → ρ1 j < sb) ∧ ∀ j, j < i + 1 → σ1 j < sb from ⟨fun j hj => by have := HR1.out.lt hj; omega, fun j hj => by have := HR2.out.lt hj; omega⟩)
         have G1 : g1 < sb := by have := HR1.out.outer.lt; omega
         have G2 : g2 < sb := by have := HR2.out.outer.lt; omega
         rw [hsb] at y0 y1 hs6
         simp only [hw6, hsb]
         clear hw6 hb6 xs1 xs2 xc1 xc2 gl0 gl1 gl2 HR1 HR2 HB hzw HMx hsb
         cases ta : timeB (-v2)
         ·have HNT := Lib.hid (show ¬ timeD D i k from fun q => by have q2 := (q HF.out).2; rw [HV2.out, ta] at q2; cases q2)
          go_wp2_with (go_at_call 54; refine (Time_any _ _).mono ?_; rintro e w' ⟨rfl, rfl⟩)
          refine bodyPost_ret (v := .tuple #[.slice none 0 0, .slice none 0 0, .iface 88 (.int .i64 1)]) (by simp [results, Tryz.results98, go_sem]) rfl ?_
          exact ⟨none, 0, 0, none, 0, 0, 1, rfl, HB2.out.trans (HB6.out.mono HB2.out.size), .inr ⟨T1.out, D, T2.out, .inl ⟨rfl, i, k, d1, d2, HNT.out⟩⟩⟩
         ·cases tb : timeB v1
          ·have HNT := Lib.hid (show ¬ timeD D i k from fun q => by have q2 := (q HF.out).1; rw [HV1.out, tb] at q2; cases q2)
           go_wp2_with (go_at_call 54; refine (Time_any _ _).mono ?_; rintro e w' ⟨rfl, rfl⟩)
           refine bodyPost_ret (v := .tuple #[.slice none 0 0, .slice none 0 0, .iface 88 (.int .i64 1)]) (by simp [results, Tryz.results98, go_sem]) rfl ?_
           exact ⟨none, 0, 0, none, 0, 0, 1, rfl, HB2.out.trans (HB6.out.mono HB2.out.size), .inr ⟨T1.out, D, T2.out, .inl ⟨rfl, i, k, d1, d2, HNT.out⟩⟩⟩
          ·have HTT := Lib.hid (show timeD D i k from fun _ => ⟨by rw [HV1.out]; exact tb, by rw [HV2.out]; exact ta⟩)
           have xs3 := HA6.out.csl (j := i) (by omega) (by omega)
           have xs4 := HC6.out.csl (j := i) (by omega) (by omega)
           have hr1 := HA6.out.rows i (by omega)
           have hr2 := HC6.out.rows i (by omega)
           rw [csS_i] at hr1
           rw [csH_i] at hr2
           have z0 := hr1.sat0 (rowS_at (D := D) (i := i) (k := k) d2)
           have z1 := hr1.sat1 (rowS_at (D := D) (i := i) (k := k) d2)
           have z2 := hr2.bat (rowH_at (D := D) (i := i) (k := k) d2)
           rw [if_neg (by omega)] at z0 z1
           have zf1 := fun o => hr1.fz o
           have zf2 := fun o => hr2.fz o
           have zn : ρ1 i ≠ σ1 i := hr1.type_ne hr2 (by decide)
           have zl1 := hr1.lt
           have zl2 := hr2.lt
           have HH1 := Lib.hid hr1
           have HH2 := Lib.hid hr2
           obtain ⟨r1, hr1'⟩ : ∃ r, ρ1 i = r := ⟨_, rfl⟩
           obtain ⟨r2, hr2'⟩ : ∃ r, σ1 i = r := ⟨_, rfl⟩
           rw [hr1'] at xs3 z0 z1 zf1 zn zl1
           rw [hr2'] at xs4 z2 zf2 zn zl2
           have HRR1 := Lib.hid hr1'
           have HRR2 := Lib.hid hr2'
           clear hr1 hr2 hr1' hr2'
           go_wp2_with (go_at_call 54; refine (Time_any _ _).mono ?_; rintro e w' ⟨rfl, rfl⟩)
           go_region
           have HN1 := Lib.hid (show RowsAt ((((w6.setCell ⟨r1, k * 2, none⟩ (.int .i64 (-v2))).setCell ⟨r1, k * 2 + 1, none⟩ (.int .i64 v1)).setCell ⟨r2, k, none⟩ (.bool true)).drew) w2.heap.size g1 N (i + 1) ρ1 125 34 (csS N D i (k + 1)) by
            have hk2 := HC6.out.rows i (by omega)
            have h0 := HA6.out.span (cs' := csS N D i (k + 1)) (j := i) (k := k) (by omega) (by decide) HH1.out (-v2) v1 (by
             rw [csS_i, ← rowS_set d2 HF.out, HV1.out, HV2.out]) (fun m hm hne => by rw [csS_j hne, csS_j hne])
            rw [HRR1.out] at h0
            rw [HRR2.out] at hk2
            exact (h0.far (p := ⟨r2, k, none⟩) (fun q => HA6.out.outer.type_ne hk2 (by decide) q) (fun j hj q => (HA6.out.rows j hj).type_ne hk2 (by decide) q) _).drewN 1)
           have HN2 := Lib.hid (show RowsAt ((((w6.setCell ⟨r1, k * 2, none⟩ (.int .i64 (-v2))).setCell ⟨r1, k * 2 + 1, none⟩ (.int .i64 v1)).setCell ⟨r2, k, none⟩ (.bool true)).drew) w2.heap.size g2 N (i + 1) σ1 124 4 (csH N D i (k + 1)) by
            have hk1 := HA6.out.rows i (by omega)
            rw [HRR1.out] at hk1
            have h1 := (HC6.out.far (p := ⟨r1, k * 2, none⟩) (fun q => HC6.out.outer.type_ne hk1 (by decide) q) (fun j hj q => (HC6.out.rows j hj).type_ne hk1 (by decide) q) (.int .i64 (-v2))).far (p := ⟨r1, k * 2 + 1, none⟩) (fun q => HC6.out.outer.type_ne hk1 (by decide) q) (fun j hj q => (HC6.out.rows j hj).type_ne hk1 (by decide) q) (.int .i64 v1)
            have h2 := h1.rows i (by omega)
            rw [csH_i] at h2
            have h0 := h1.bool (cs' := csH N D i (k + 1)) (j := i) (k := k) (by omega) (by decide) h2 true (by
             rw [csH_i, ← rowH_set d2 HF.out]) (fun m hm hne => by rw [csH_j hne, csH_j hne])
            rw [HRR2.out] at h0
            exact h0.drewN 1)
           have HNB := Lib.hid (show Below w2.heap.size w2 ((((w6.setCell ⟨r1, k * 2, none⟩ (.int .i64 (-v2))).setCell ⟨r1, k * 2 + 1, none⟩ (.int .i64 v1)).setCell ⟨r2, k, none⟩ (.bool true)).drew) by
            have o1 := HA6.out.old i (by omega)
            have o2 := HC6.out.old i (by omega)
            rw [HRR1.out] at o1
            rw [HRR2.out] at o2
            exact (((HB6.out.setCell o1 _).setCell o1 _).setCell o2 _).drew)
           have HT3 := Lib.hid (show ∀ b, b < k + 1 → timeD D i b from fun b hb => by
            by_cases e : b = k
            ·subst e; exact HTT.out
            ·exact HT2.out b (by omega))
           clear xs3 xs4 z0 z1 z2 zf1 zf2 y0 y1
           go_wp2_with fail
           go_roundw
           case rel => exact ⟨k + 1, by go_num, by omega, HN1.out, HN2.out, HT3.out, HNB.out⟩
           case measure => simp [intOf]; omega
       ·obtain rfl : k = N := by omega
        have HE1 := Lib.hid (HR1.out.congr (cs' := csS k D k k) (fun j hj => by
         by_cases e : j = i
         ·subst e; rw [csS_i]; unfold csS; split <;> rfl
         ·rw [csS_j e]))
        have HE2 := Lib.hid (HR2.out.congr (cs' := csH k D k k) (fun j hj => by
         by_cases e : j = i
         ·subst e; rw [csH_i]; unfold csH; split <;> rfl
         ·rw [csH_j e]))
        have HT3 := Lib.hid (show ∀ a b, a < i + 1 → b < k → timeD D a b from fun a b ha hb => by
         by_cases e : a = i
         ·subst e; exact HT2.out b hb
         ·exact HT.out a b (by omega) hb)
        go_wp2_with fail
        go_roundw
        case rel => exact ⟨i + 1, ρ1, σ1, by go_num, by omega, HE1.out, HE2.out, HT3.out, HB.out⟩
        case measure => simp [intOf]; omega

    ·obtain rfl : i = N := by omega
     go_wp2_with fail
     refine bodyPost_ret (v := .tuple #[.slice (some ⟨g1, 0, none⟩) i i, .slice (some ⟨g2, 0, none⟩) i i, .nilIface]) (by simp [results, Tryz.results98, go_sem]) rfl ?_
     refine ⟨some ⟨g1, 0, none⟩, i, i, some ⟨g2, 0, none⟩, i, i, 0, rfl, HB2.out.trans (HB.out.mono HB2.out.size), .inr ⟨T1.out, D, T2.out, .inr ⟨rfl, HT.out, ?_, ?_⟩⟩⟩
     ·refine ⟨rfl, Nat.le_refl _, by unfold maxLen; omega, g1, rfl, HR1.out.outer.lt, fun a ha => ⟨ρ a, i, HR1.out.csl ha (by omega), Nat.le_refl _, by unfold maxLen; omega, HR1.out.lt ha, fun b hb q u hu => ?_⟩⟩
      have hr := HR1.out.rows a ha
      unfold csS at hr
      have hz := rowS_at (D := D) (i := a) (k := if a = i then i else i) hb
      have hq : q = 0 ∨ q = 1 := by have := (List.getElem?_eq_some_iff.1 hu).1; simp [RSpan.cells] at this; omega
      have hz' : (rowS i D a (if a = i then i else i))[b]? = some (if D a b < farI then ⟨-(D b a), D a b⟩ else ⟨0, 0⟩) := by
       rw [hz]
       congr 1
       by_cases f : D a b < farI
       ·rw [if_pos f, if_pos ⟨by split <;> exact hb, f⟩]
       ·rw [if_neg f, if_neg (fun q => f q.2)]
      rcases hq with rfl | rfl
      ·have h0 := hr.sat0 hz'
       simp only [RSpan.cells, List.getElem?_cons_zero, Option.some.injEq] at hu
       rw [← hu]
       exact h0
      ·have h0 := hr.sat1 hz'
       simp only [RSpan.cells, List.getElem?_cons_succ, List.getElem?_cons_zero, Option.some.injEq] at hu
       rw [← hu]
       exact h0
     ·refine ⟨rfl, Nat.le_refl _, by unfold maxLen; omega, g2, rfl, HR2.out.outer.lt, fun a ha => ⟨σ a, i, HR2.out.csl ha (by omega), Nat.le_refl _, by unfold maxLen; omega, HR2.out.lt ha, fun b hb q u hu => ?_⟩⟩
      have hr := HR2.out.rows a ha
      unfold csH at hr
      have hz := rowH_at (D := D) (i := a) (k := if a = i then i else i) hb
      have hq : q = 0 := by have := (List.getElem?_eq_some_iff.1 hu).1; simp [boolCells] at this; omega
      have hz' : (rowH i D a (if a = i then i else i))[b]? = some (decide (D a b < farI)) := by
       rw [hz]
       congr 1
       by_cases f : D a b < farI
       ·simp [f, hb]
       ·simp [f]
      subst hq
      have h0 := hr.bat hz'
      simp only [boolCells, List.getElem?_cons_zero, Option.some.injEq] at hu
      rw [← hu]
      simpa using h0
end Go.Proofs.YtldlandcjegikaaGreatDoor
