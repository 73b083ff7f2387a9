/- bounds.closed, walked: over each node in turn. -/
import Derived.Test.YtmficdfihogffaaDoorHK2
import Derived.Test.YtmficdfihogffaaDoorHK1
namespace Go.Proofs.YtmficdfihogffaaDoor
open Go.RowKit
set_option linter.unusedVariables false
set_option linter.unusedSimpArgs false
def upL (k : Nat) : List Int := (List.range k).map (fun j : Nat => (j : Int))
theorem upL_len (k : Nat) : (upL k).length = k := by simp [upL]
theorem upL_succ (k : Nat) : upL (k + 1) = upL k ++ [(k : Int)] := by simp [upL, List.range_succ]
theorem upL_at {k j : Nat} (h : j < k) : (upL k)[j]? = some (j : Int) := by
  unfold upL
  rw [List.getElem?_map, List.getElem?_range h]; rfl
theorem bounds_upTo (N : Nat) (w : World) (h1 : 1 ≤ N) (h6 : N ≤ 6) :
    Calls Tryd.prog 79 #[.int .i64 N] w fun e w' => (∃ q cap, e = .returned (.slice (some ⟨q, 0, none⟩) N cap) ∧ (N ≤ cap ∧ cap ≤ 9223372036854775807) ∧ q < w'.heap.size ∧ ∀ j, j < N → w'.cell? ⟨q, j, none⟩ = some (.int .i64 (j : Int))) ∧ Below w.heap.size w w' := by
  obtain ⟨i0, hi, hz0, hz1, hz2⟩ := info_parts infoI
  go_enter Tryd.func79, Tryd.ntmps79
  go_wp2_with fail
  go_loopw [2, 5] (fun lv kv wr => ∃ k : Nat, kv = .int .i64 k ∧ k ≤ N ∧ wr.ownsRow w.heap.size 3 1 lv (upL k).length ((upL k).flatMap intCells) ∧ Below w.heap.size w wr) (fun _ kv _ => N - (intOf kv).toNat)
  case atStart => exact ⟨0, rfl, by omega, own_nil _ _ _ _, Below.refl _ _⟩
  case round =>
    obtain ⟨k, rfl, hk, ho, hB⟩ := hrel
    have HO := Lib.hid ho
    have HB := Lib.hid hB
    have hzw := hB.size
    have hlen := upL_len k
    have HS := Lib.hid (upL_succ k)
    clear ho hB
    by_cases d1 : k < N
    · obtain ⟨xs, hxs⟩ : ∃ xs, upL k = xs := ⟨_, rfl⟩
      rw [hxs] at HO HS hlen
      have hlen : xs.length ≤ 6 := by omega
      clear hxs
      go_wp2_with (at_builtin; refine wpList_append_own _ rfl _ _ 22 rfl w.heap.size 3 i0 (.int .i64 0) 1 8 Tryd.underlying22 hi hz0 hz1 hz2 rfl (by decide) _ _ _ rfl (HO.out.alloc _) ⟨wr.heap.size, 0, none⟩ 1 1 _ rfl rfl (cell_newAt wr (intCells k) _ _ rfl) (int_one _) (by unfold maxLen; omega) (by omega) (by simp; omega) ?_; intro v' w1 ho1 hg1 _)
      have HB2 := Lib.hid (show Below w.heap.size w w1 from (HB.out.alloc (by omega) _).grown hg1 (by simp; omega) (fun k hk => (HO.out.lt k hk).1))
      have HO2 := Lib.hid (own_snoc intCells (z := (k : Int)) ho1)
      clear ho1 hg1
      go_wp2_with fail
      go_roundw
      case rel => exact ⟨k + 1, by go_num, by omega, by rw [HS.out]; exact HO2.out, HB2.out⟩
      case measure => simp [intOf]; omega
    · obtain rfl : k = N := by omega
      obtain ⟨q, cap, rfl, q1, q2, q3, q4, q5⟩ := own_ints HO.out (by rw [upL_len]; omega)
      have Q5 := Lib.hid (show ∀ j, j < k → wr.cell? ⟨q, j, none⟩ = some (.int .i64 (j : Int)) from fun j hj => q5 j _ (upL_at hj))
      rw [upL_len] at q3
      unfold maxLen at q4
      clear q5 HO HS
      rw [upL_len]
      clear hlen
      go_wp2_with fail
      go_ret
      exact ⟨⟨q, cap, rfl, ⟨q3, by omega⟩, q2, Q5.out⟩, HB.out⟩
theorem closed_1 (N a B : Nat) (D : Nat → Nat → Int) (w : World) (ha : a < N) (h6 : N ≤ 6) (hM : MatAt w B N 136 22 3 N D) :
    Calls Tryd.prog 80 #[.int .i64 a, .pointer (some ⟨B + 1, 0, none⟩)] w fun e w' => e = .returned (.bool (decide (D a a < 0))) ∧ w = w' := by
  have xb := hM.cbox
  have xs1 := hM.csl (j := a) ha (by omega)
  have xc1 := hM.cat (j := a) (k := a) ha ha
  obtain ⟨v, hv⟩ : ∃ v, D a a = v := ⟨_, rfl⟩
  rw [hv] at xc1 ⊢
  have k0 : (0 : Int) ≤ (a : Int) := by omega
  have k1 : (a : Int) < (N : Int) := by omega
  clear hM hv
  go_enter Tryd.func80, Tryd.ntmps80
  go_wp2_with fail
  go_ret
  exact ⟨rfl, rfl⟩
def negB (N : Nat) (D : Nat → Nat → Int) : Bool := (List.range N).any fun a => decide (D a a < 0)
theorem negB_iff {N : Nat} {D : Nat → Nat → Int} : negB N D = true ↔ ∃ a, a < N ∧ D a a < 0 := by
  unfold negB
  simp [List.any_eq_true]
def IdxP (b : Bool) (w : World) (e : Ending) (w' : World) : Prop := ∃ r : Int, e = .returned (.int .i64 r) ∧ decide (0 ≤ r) = b ∧ w = w'
theorem idx_closed (N B : Nat) (D : Nat → Nat → Int) (q cap : Nat) (w : World) (h6 : N ≤ 6) (hM : MatAt w B N 136 22 3 N D) (hc1 : N ≤ cap) (hc2 : cap ≤ 9223372036854775807)
    (hq : ∀ j, j < N → w.cell? ⟨q, j, none⟩ = some (.int .i64 (j : Int))) :
    Calls Tryd.prog 65 #[.slice (some ⟨q, 0, none⟩) N cap, .func (.func 80) #[] #[.pointer (some ⟨B + 1, 0, none⟩)]] w (IdxP (negB N D) w) := by
  have HM := Lib.hid hM
  have HQ := Lib.hid hq
  clear hM hq
  go_enter Tryd.func65, Tryd.ntmps65
  go_wp2_with fail
  go_loopw [8] (fun kv wr => ∃ k : Nat, kv = .int .i64 k ∧ k ≤ N ∧ (∀ a, a < k → 0 ≤ D a a) ∧ w = wr) (fun kv _ => N - (intOf kv).toNat)
  case atStart => exact ⟨0, rfl, by omega, fun a ha => absurd ha (by omega), rfl⟩
  case round =>
    obtain ⟨k, rfl, hk, hD, rfl⟩ := hrel
    have HD := Lib.hid hD
    clear hD
    by_cases d1 : k < N
    · have x0 := HQ.out k d1
      have C := Lib.hid (closed_1 N k B D w d1 h6 HM.out)
      obtain ⟨v, hv⟩ : ∃ v, D k k = v := ⟨_, rfl⟩
      rw [hv] at C
      have HV := Lib.hid hv
      clear hv
      by_cases e : v < 0
      · have e1 : decide (v < 0) = true := by simpa using e
        have HN := Lib.hid (show negB N D = true from negB_iff.2 ⟨k, d1, by rw [HV.out]; exact e⟩)
        go_wp2_with fail
        refine C.out.mono ?_
        rintro e w' ⟨rfl, rfl⟩
        go_wp2_with fail
        go_ret
        exact ⟨k, rfl, by rw [HN.out]; simp, rfl⟩
      · have e1 : decide (v < 0) = false := by simpa using e
        go_wp2_with fail
        refine C.out.mono ?_
        rintro e w' ⟨rfl, rfl⟩
        go_wp2_with fail
        go_roundw
        case rel => exact ⟨k + 1, by go_num, by omega, fun a ha => by
          by_cases h : a = k
          · subst h; rw [HV.out]; omega
          · exact HD.out a (by omega), trivial⟩
        case measure => simp [intOf]; omega
    · have HN := Lib.hid (show negB N D = false from by
        cases h : negB N D
        · rfl
        · obtain ⟨a, ha, hn⟩ := negB_iff.1 h
          have := HD.out a (by omega)
          omega)
      go_wp2_with fail
      go_ret
      exact ⟨-1, rfl, by rw [HN.out]; rfl, rfl⟩
theorem has_closed (N B : Nat) (D : Nat → Nat → Int) (q cap : Nat) (w : World) (h6 : N ≤ 6) (hM : MatAt w B N 136 22 3 N D) (hc1 : N ≤ cap) (hc2 : cap ≤ 9223372036854775807)
    (hq : ∀ j, j < N → w.cell? ⟨q, j, none⟩ = some (.int .i64 (j : Int))) :
    Calls Tryd.prog 39 #[.slice (some ⟨q, 0, none⟩) N cap, .func (.func 80) #[] #[.pointer (some ⟨B + 1, 0, none⟩)]] w fun e w' => e = .returned (.bool (negB N D)) ∧ w = w' := by
  have C := Lib.hid (idx_closed N B D q cap w h6 hM hc1 hc2 hq)
  clear hM hq
  go_enter Tryd.func39, Tryd.ntmps39
  go_wp2_with fail
  refine C.out.mono ?_
  rintro e w' ⟨r, rfl, hr, rfl⟩
  have HR := Lib.hid hr
  clear hr
  go_wp2_with fail
  go_ret
  exact ⟨ret_bool HR.out, rfl⟩
/-- what closed answers. -/
def ClosedP (N : Nat) (zs : List REdge) (w w' : World) (e : Ending) : Prop :=
  ∃ (D : Nat → Nat → Int) (ok : Bool), e = .returned (.tuple #[.slice (some ⟨w.heap.size, 0, none⟩) N N, .bool ok]) ∧ MatAt w' w.heap.size N 136 22 3 N D ∧
    (ok = true → ¬ Sunk (Arc zs) N ∧ Tells (Arc zs) N D (fun a b => decide (D a b < farI)) ∧ ∀ a b, a < N → b < N → D a b = farI ∨ (-46656000000000000 ≤ D a b ∧ D a b ≤ 46656000000000000)) ∧
    (ok = false → Sunk (Arc zs) N) ∧ Below w.heap.size w w'
theorem negB_ok {N : Nat} {zs : List REdge} {D : Nat → Nat → Int} (hl : EdgesOk N zs) (h6 : N ≤ 6) (h : FInv N zs N 0 0 D) :
    ((!negB N D) = true → ¬ Sunk (Arc zs) N ∧ Tells (Arc zs) N D (fun a b => decide (D a b < farI)) ∧ ∀ a b, a < N → b < N → D a b = farI ∨ (-46656000000000000 ≤ D a b ∧ D a b ≤ 46656000000000000)) ∧ ((!negB N D) = false → Sunk (Arc zs) N) := by
  refine ⟨fun g => h.fine hl h6 (fun a ha => ?_), fun g => ?_⟩
  · rcases Int.lt_or_le (D a a) 0 with q | q
    · rw [negB_iff.2 ⟨a, ha, q⟩] at g; cases g
    · exact q
  · have : negB N D = true := by simpa using g
    obtain ⟨a, ha, q⟩ := negB_iff.1 this
    exact h.sunk ha q
def D0 (a b : Nat) : Int := if a = b then 0 else farI
theorem made_i0 (N : Nat) : ICells (List.replicate N 0) = ICells (rowOf N (fun _ _ => 0) 0) := by
  congr 1
  apply List.ext_getElem?
  intro j
  rw [List.getElem?_replicate]
  by_cases hj : j < N
  · rw [if_pos hj, rowOf_at hj]
  · rw [if_neg hj, List.getElem?_eq_none (by rw [rowOf_len]; omega)]
/-- the table as its row i is filled. -/
def DJ (i k a b : Nat) : Int := if a = i ∧ ¬ b < k then 0 else D0 a b
theorem DJ_set {i k : Nat} (hne : i ≠ k) (a b : Nat) : up2 (DJ i k) i k 1152921504606846976 a b = DJ i (k + 1) a b := by
  unfold up2 DJ
  by_cases e : a = i ∧ b = k
  · have g : ¬ (a = i ∧ ¬ b < k + 1) := by omega
    rw [if_pos e, if_neg g, e.1, e.2]
    unfold D0 farI
    rw [if_neg hne]
  · rw [if_neg e]
    by_cases f : a = i ∧ ¬ b < k
    · have g : a = i ∧ ¬ b < k + 1 := by omega
      rw [if_pos f, if_pos g]
    · have g : ¬ (a = i ∧ ¬ b < k + 1) := by omega
      rw [if_neg f, if_neg g]
theorem DJ_skip {i a b : Nat} : DJ i i a b = DJ i (i + 1) a b := by
  unfold DJ
  by_cases e : a = i ∧ b = i
  · have f : a = i ∧ ¬ b < i := by omega
    have g : ¬ (a = i ∧ ¬ b < i + 1) := by omega
    rw [if_pos f, if_neg g, e.1, e.2]
    unfold D0
    rw [if_pos rfl]
  · by_cases f : a = i ∧ ¬ b < i
    · have g : a = i ∧ ¬ b < i + 1 := by omega
      rw [if_pos f, if_pos g]
    · have g : ¬ (a = i ∧ ¬ b < i + 1) := by omega
      rw [if_neg f, if_neg g]
theorem DJ_end {N i a b : Nat} (h : b < N) : DJ i N a b = D0 a b := by
  unfold DJ
  rw [if_neg (by omega)]
theorem DJ_old {i k a b : Nat} (h : a ≠ i) : DJ i k a b = D0 a b := by
  unfold DJ
  rw [if_neg (by omega)]
theorem DJ_new {N i : Nat} : rowOf N (fun _ _ => 0) 0 = rowOf N (DJ i 0) i := by
  unfold rowOf
  apply List.map_congr_left
  intro a ha
  unfold DJ
  rw [if_pos (by omega)]
theorem row_congr {N : Nat} {D E : Nat → Nat → Int} {i : Nat} (h : ∀ b, b < N → D i b = E i b) : rowOf N D i = rowOf N E i := by
  unfold rowOf
  apply List.map_congr_left
  intro a ha
  exact h a (List.mem_range.1 ha)
theorem infoSl : (Tryd.prog.info? 22).map (fun i => (i.zero, i.size, i.bytes)) = some (some (.slice none 0 0), 1, 24) := by kernel_rfl
set_option maxRecDepth 100000 in
set_option maxHeartbeats 8000000 in
theorem bounds_closed (N : Nat) (A : Option Addr) (n c : Nat) (zs : List REdge) (w : World) (hz : IsRecs w REdge.cells REdge.ok 4 A n c zs) (h1 : 1 ≤ N) (h6 : N ≤ 6) (hn : n ≤ 40) (hl : EdgesOk N zs) :
    Calls Tryd.prog 62 #[.int .i64 N, .slice A n c] w fun e w' => ClosedP N zs w w' e := by
  obtain ⟨l1, l2, l3, l4, l5⟩ := hz
  unfold maxLen at l3
  have L1 := Lib.hid l1
  have L5 := Lib.hid l5
  have HL := Lib.hid hl
  clear l4 l5 l1 hl
  have mk1 := run_make_row' (P := Tryd.prog) 136 22 (.slice none 0 0) 24 Tryd.underlying136 infoSl rfl .i64 .i64 N (by omega) (by omega)
  have mk2 := run_make_row' (P := Tryd.prog) 22 3 (.int .i64 0) 8 Tryd.underlying22 infoI rfl .i64 .i64 N (by omega) (by omega)
  rw [made_sl w.heap.size] at mk1
  rw [made_i, made_i0] at mk2
  go_enter Tryd.func62, Tryd.ntmps62
  go_wp2_with fail
  go_loopw [18] (fun iv wr => ∃ i : Nat, iv = .int .i64 i ∧ i ≤ N ∧ MatAt wr w.heap.size N 136 22 3 i D0 ∧ wr.heap.size = w.heap.size + 2 + i ∧ Below w.heap.size w wr) (fun iv _ => N - (intOf iv).toNat)
  case atStart => exact ⟨0, rfl, by omega, ⟨(Blk.new w _ _).alloc _, (by have := Blk.new (w.alloc (.cells (slCells w.heap.size N 0) 22)) 136 #[.slice (some ⟨w.heap.size, 0, none⟩) N N]; simpa using this), fun j hj => absurd hj (by omega)⟩, by simp, (by repeat (first | with_reducible exact Below.refl _ _ | (with_reducible refine Below.alloc ?_ (by first | omega | (simp; done) | (simp; omega)) _) | (with_reducible refine Below.setCell ?_ (by first | omega | (simp; done) | (simp; omega)) _) | (with_reducible refine Below.drew ?_) | (with_reducible refine below_drewN ?_ _) | (with_reducible assumption) | (with_reducible refine bel_step (by with_reducible assumption) ?_ (by first | omega | (simp; done) | (simp; omega)))))⟩
  case round =>
    obtain ⟨i, rfl, hi, hM, hs, hB⟩ := hrel
    have HM := Lib.hid hM
    have HB := Lib.hid hB
    have HS := Lib.hid hs
    have hzw := hB.size
    have xb := hM.cbox
    have xf := hM.outer.fz i
    have g1 := hM.outer.lt
    have g2 := hM.box.lt
    by_cases d1 : i < N
    · have xo : wr.cell? ⟨w.heap.size, i, none⟩ = some (.slice none 0 0) := by rw [hM.outer.cell, slCells_at d1, if_neg (by omega)]
      have k0 : (0 : Int) ≤ (i : Int) := by omega
      have k1 : (i : Int) < (N : Int) := by omega
      clear hM hB hs
      go_wp2_with fail
      go_region_held3 (fun w' => w'.cell? ⟨w.heap.size + 1, 0, none⟩ = some (.slice (some ⟨w.heap.size, 0, none⟩) N N)) (go_keep) (fail)
      have HM2 := Lib.hid (show MatAt ((wr.setCell ⟨w.heap.size, i, none⟩ (.slice (some ⟨wr.heap.size, 0, none⟩) N N)).alloc (.cells (ICells (rowOf N (fun _ _ => 0) 0)) 3)).drew w.heap.size N 136 22 3 (i + 1) (DJ i 0) from
        ⟨by
          have h := HM.out.outer.set i (.slice (some ⟨wr.heap.size, 0, none⟩) N N)
          rw [show wr.heap.size = w.heap.size + 2 + i from HS.out, slCells_set] at h
          rw [show wr.heap.size = w.heap.size + 2 + i from HS.out]
          exact (h.alloc _).drew, ((HM.out.box.far (by simp) _).alloc _).drew, fun j hj => by
          by_cases e : j = i
          · subst e
            have h := Blk.new (wr.setCell ⟨w.heap.size, j, none⟩ (.slice (some ⟨wr.heap.size, 0, none⟩) N N)) 3 (ICells (rowOf N (fun _ _ => 0) 0))
            rw [show (wr.setCell ⟨w.heap.size, j, none⟩ (.slice (some ⟨wr.heap.size, 0, none⟩) N N)).heap.size = w.heap.size + 2 + j by simp; exact HS.out] at h
            rw [← DJ_new]
            exact h.drew
          · rw [show rowOf N (DJ i 0) j = rowOf N D0 j from row_congr (fun b _ => DJ_old e)]
            exact (((HM.out.rows j (by omega)).far (by simp; omega) _).alloc _).drew⟩)
      have HB2 := Lib.hid (show Below w.heap.size w ((wr.setCell ⟨w.heap.size, i, none⟩ (.slice (some ⟨wr.heap.size, 0, none⟩) N N)).alloc (.cells (ICells (rowOf N (fun _ _ => 0) 0)) 3)).drew by have := HB.out; exact (by repeat (first | with_reducible exact Below.refl _ _ | (with_reducible refine Below.alloc ?_ (by first | omega | (simp; done) | (simp; omega)) _) | (with_reducible refine Below.setCell ?_ (by first | omega | (simp; done) | (simp; omega)) _) | (with_reducible refine Below.drew ?_) | (with_reducible refine below_drewN ?_ _) | (with_reducible assumption) | (with_reducible refine bel_step (by with_reducible assumption) ?_ (by first | omega | (simp; done) | (simp; omega))))))
      have xs := HM2.out.csl (j := i) (by omega) (by omega)
      have xz : ((wr.setCell ⟨w.heap.size, i, none⟩ (.slice (some ⟨wr.heap.size, 0, none⟩) N N)).alloc (.cells (ICells (rowOf N (fun _ _ => 0) 0)) 3)).drew.heap.size = w.heap.size + 2 + (i + 1) := by simp; have := HS.out; omega
      generalize ((wr.setCell ⟨w.heap.size, i, none⟩ (.slice (some ⟨wr.heap.size, 0, none⟩) N N)).alloc (.cells (ICells (rowOf N (fun _ _ => 0) 0)) 3)).drew = w2 at HM2 HB2 xs xz ⊢
      have XZ := Lib.hid xz
      clear xz xb xf xo HM HB HS
      have xb := HM2.out.cbox
      go_wp2_with fail
      clear xb xs
      obtain ⟨wo, rfl⟩ : ∃ wo : World, wo = w2 := ⟨_, rfl⟩
      go_loopw [31] (fun kv wx => ∃ k : Nat, kv = .int .i64 k ∧ k ≤ N ∧ MatAt wx w.heap.size N 136 22 3 (i + 1) (DJ i k) ∧ wx.heap.size = w.heap.size + 2 + (i + 1) ∧ Below w.heap.size w wx) (fun kv _ => N - (intOf kv).toNat)
      case atStart => exact ⟨0, rfl, by omega, HM2.out, XZ.out, HB2.out⟩
      case round =>
        obtain ⟨k, rfl, hk, hM, hs, hB⟩ := hrel
        have HM := Lib.hid hM
        have HB := Lib.hid hB
        have HS := Lib.hid hs
        have xb := hM.cbox
        have xs := hM.csl (j := i) (by omega) (by omega)
        have xf := fun o => hM.fz (j := i) (by omega) o
        have gi := hM.lt (j := i) (by omega)
        clear hM hB hs
        by_cases d2 : k < N
        · by_cases e : i = k
          · subst e
            have HM3 := Lib.hid (HM.out.congr (E := DJ i (i + 1)) (fun a b _ _ => DJ_skip))
            go_wp2_with fail
            go_roundw
            case rel => exact ⟨i + 1, by go_num, by omega, HM3.out, HS.out, HB.out⟩
            case measure => simp [intOf]; omega
          · have e1 : (i == k) = false := by simpa using e
            have e2 : ((i : Int) == (k : Int)) = false := by simp; omega
            have HM3 := Lib.hid ((HM.out.set i k 1152921504606846976).congr (E := DJ i (k + 1)) (fun a b _ _ => DJ_set e a b))
            have xc := HM.out.cat (j := i) (by omega) d2
            go_wp2_with fail
            go_roundw
            case rel => exact ⟨k + 1, by go_num, by omega, HM3.out, by simp; exact HS.out, HB.out.setCell (by simp; omega) _⟩
            case measure => simp [intOf]; omega
        · obtain rfl : k = N := by omega
          go_wp2_with fail
          go_roundw
          case rel => exact ⟨i + 1, by go_num, by omega, HM.out.congr (fun a b ha hb => by by_cases e : a = i; (exact DJ_end hb); (exact DJ_old e)), HS.out, HB.out⟩
          case measure => simp [intOf]; omega
    · obtain rfl : i = N := by omega
      clear hM hB hs xf xb
      go_wp2_with fail
      go_loopw [47] (fun kv wx => ∃ (k : Nat) (D : Nat → Nat → Int), kv = .int .i64 k ∧ k ≤ n ∧ MatAt wx w.heap.size i 136 22 3 i D ∧ EInv i zs k D ∧ w.heap.size + 2 + i ≤ wx.heap.size ∧ Below w.heap.size w wx) (fun kv _ => n - (intOf kv).toNat)
      case atStart => exact ⟨0, D0, rfl, by omega, HM.out, EInv.init i zs D0 (fun a b _ _ => rfl), by rw [HS.out]; exact Nat.le_refl _, HB.out⟩
      case round =>
        obtain ⟨k, D, rfl, hk, hM, hE, hs, hB⟩ := hrel
        have HM := Lib.hid hM
        have HE := Lib.hid hE
        have HB := Lib.hid hB
        clear hM hE hB
        by_cases d2 : k < n
        · obtain ⟨b, off, rfl, hb, hc⟩ := L5.out (by omega)
          obtain ⟨z, hz⟩ : ∃ z, zs[k]? = some z := ⟨_, List.getElem?_eq_getElem (by rw [L1.out]; omega)⟩
          have x0 := (HB.out.cell (p := ⟨b, off + k * 4, none⟩) hb).trans (hc k z hz 0 _ rfl)
          have x1 := (HB.out.cell (p := ⟨b, off + k * 4 + 1, none⟩) hb).trans (hc k z hz 1 _ rfl)
          have x2 := (HB.out.cell (p := ⟨b, off + k * 4 + 2, none⟩) hb).trans (hc k z hz 2 _ rfl)
          have x3 := (HB.out.cell (p := ⟨b, off + k * 4 + 3, none⟩) hb).trans (hc k z hz 3 _ rfl)
          have hed := HL.out z (List.mem_of_getElem? hz)
          obtain ⟨za, zb, zl, zh⟩ := z
          unfold edgeB at hed
          obtain ⟨ea, eb, ec, ed, ee, ef, eg, eh⟩ := hed
          dsimp only at ea eb ec ed ee ef eg eh
          dsimp only [REdge.cells] at x0 x1 x2 x3
          obtain ⟨a, rfl⟩ := Int.eq_ofNat_of_zero_le ea
          obtain ⟨c', rfl⟩ := Int.eq_ofNat_of_zero_le ec
          have HEE := Lib.hid (HE.out.step HL.out hz (a := a) (b := c') rfl rfl)
          have n2' : b < wr.heap.size := by have := HB.out.size; omega
          clear hc hz
          have k0 : (0 : Int) ≤ (a : Int) := by omega
          have k1 : (a : Int) < (i : Int) := by omega
          have k2 : (0 : Int) ≤ (c' : Int) := by omega
          have k3 : (c' : Int) < (i : Int) := by omega
          go_wp2_with fail
          obtain ⟨w3, hw3⟩ : ∃ w3, wr.alloc (.cells #[.int .i64 (a : Int), .int .i64 (c' : Int), .int .i64 zl, .int .i64 zh] 108) = w3 := ⟨_, rfl⟩
          have HM3 := Lib.hid (show MatAt w3 w.heap.size i 136 22 3 i D by rw [← hw3]; exact HM.out.alloc _)
          have HB3 := Lib.hid (show Below w.heap.size w w3 by rw [← hw3]; exact HB.out.alloc HB.out.size _)
          have hs3 : w.heap.size + 2 + i ≤ w3.heap.size := by rw [← hw3]; simp; omega
          obtain ⟨eb, heb⟩ : ∃ eb, wr.heap.size = eb := ⟨_, rfl⟩
          have y0 : w3.cell? ⟨eb, 0, none⟩ = some (.int .i64 (a : Int)) := by rw [← hw3, ← heb]; simp
          have y1 : w3.cell? ⟨eb, 1, none⟩ = some (.int .i64 (c' : Int)) := by rw [← hw3, ← heb]; simp
          have y2 : w3.cell? ⟨eb, 2, none⟩ = some (.int .i64 zl) := by rw [← hw3, ← heb]; simp
          have y3 : w3.cell? ⟨eb, 3, none⟩ = some (.int .i64 zh) := by rw [← hw3, ← heb]; simp
          have y4 : w.heap.size + 2 + i ≤ eb ∧ eb < w3.heap.size := by rw [← hw3, ← heb]; simp; omega
          obtain ⟨y4, y5⟩ := y4
          rw [hw3]
          simp only [heb]
          clear hw3 heb x0 x1 x2 x3
          obtain ⟨v1, hv1⟩ : ∃ v, D a c' = v := ⟨_, rfl⟩
          have xb := HM3.out.cbox
          have xs1 := HM3.out.csl (j := a) (by omega) (by omega)
          have xc1 := HM3.out.cat (j := a) (k := c') (by omega) (by omega)
          have xf1 := fun o => HM3.out.fz (j := a) (by omega) o
          have HVA := Lib.hid hv1
          rw [hv1] at xc1
          clear hv1
          rcases Int.lt_or_le zh v1 with q1 | q1
          · (skip)
            have HV1 := Lib.hid (show min v1 zh = zh from by omega)
            go_still_tail 21, (by kernel_rfl)
            change wpList _ _ _ _ _ w3.drew
            go_wp2_with fail
            have hM4 := (HM3.out.drewN 1).set a c' zh
            have hB4 : Below w.heap.size w (w3.setCell ⟨w.heap.size + 2 + a, c', none⟩ (.int .i64 zh)).drew := (HB3.out.setCell (by simp; omega) _).drew
            obtain ⟨w4, hw4⟩ : ∃ w4, (w3.setCell ⟨w.heap.size + 2 + a, c', none⟩ (.int .i64 zh)).drew = w4 := ⟨_, rfl⟩
            have HM4 := Lib.hid (show MatAt w4 w.heap.size i 136 22 3 i (up2 D a c' zh) by rw [← hw4]; exact hM4)
            have HB4 := Lib.hid (show Below w.heap.size w w4 by rw [← hw4]; exact hB4)
            have hs4 : w.heap.size + 2 + i ≤ w4.heap.size := by rw [← hw4]; simpa using hs3
            have z0 : w4.cell? ⟨eb, 0, none⟩ = some (.int .i64 (a : Int)) := by rw [← hw4]; simp [World.cell?_setCell_other, y0, show eb ≠ w.heap.size + 2 + a by omega, show w.heap.size + 2 + a ≠ eb by omega]
            have z1 : w4.cell? ⟨eb, 1, none⟩ = some (.int .i64 (c' : Int)) := by rw [← hw4]; simp [World.cell?_setCell_other, y1, show eb ≠ w.heap.size + 2 + a by omega, show w.heap.size + 2 + a ≠ eb by omega]
            have z2 : w4.cell? ⟨eb, 2, none⟩ = some (.int .i64 zl) := by rw [← hw4]; simp [World.cell?_setCell_other, y2, show eb ≠ w.heap.size + 2 + a by omega, show w.heap.size + 2 + a ≠ eb by omega]
            have z3 : w4.cell? ⟨eb, 3, none⟩ = some (.int .i64 zh) := by rw [← hw4]; simp [World.cell?_setCell_other, y3, show eb ≠ w.heap.size + 2 + a by omega, show w.heap.size + 2 + a ≠ eb by omega]
            rw [hw4]
            clear hw4 hM4 hB4 y0 y1 y2 y3 xb xs1 xc1 xf1 HM3 HB3
            obtain ⟨v2, hv2⟩ : ∃ v, (up2 D a c' zh) c' a = v := ⟨_, rfl⟩
            have HVB := Lib.hid (show D c' a = v2 from by rw [← hv2, up2_ne _ _ (by omega)])
            have xb := HM4.out.cbox
            have xs1 := HM4.out.csl (j := c') (by omega) (by omega)
            have xc1 := HM4.out.cat (j := c') (k := a) (by omega) (by omega)
            have xf1 := fun o => HM4.out.fz (j := c') (by omega) o
            rw [hv2] at xc1
            clear hv2
            rcases Int.lt_or_le (-zl) v2 with r1 | r1
            · (skip)
              have HV2 := Lib.hid (show min v2 (-zl) = -zl from by omega)
              go_still_tail 22, (by kernel_rfl)
              change wpList _ _ _ _ _ w4.drew
              go_wp2_with fail
              go_roundw
              case rel => exact ⟨k + 1, _, by go_num, by omega, by
                have h := (HM4.out.drewN 1).set c' a (-zl)
                exact h, by
                have h := HEE.out
                rw [HVA.out, HV1.out, HVB.out, HV2.out] at h
                exact h, by simpa using hs4, HB4.out.drew.setCell (by simp; omega) _⟩
              case measure => simp [intOf]; omega
            · (skip)
              have HV2 := Lib.hid (show min v2 (-zl) = v2 from by omega)
              go_still_tail 22, (by kernel_rfl)
              change wpList _ _ _ _ _ w4.drew
              go_wp2_with fail
              go_roundw
              case rel => exact ⟨k + 1, _, by go_num, by omega, by
                have h := (HM4.out.drewN 1).set c' a (v2)
                exact h, by
                have h := HEE.out
                rw [HVA.out, HV1.out, HVB.out, HV2.out] at h
                exact h, by simpa using hs4, HB4.out.drew.setCell (by simp; omega) _⟩
              case measure => simp [intOf]; omega
          · (skip)
            have HV1 := Lib.hid (show min v1 zh = v1 from by omega)
            go_still_tail 21, (by kernel_rfl)
            change wpList _ _ _ _ _ w3.drew
            go_wp2_with fail
            have hM4 := (HM3.out.drewN 1).set a c' v1
            have hB4 : Below w.heap.size w (w3.setCell ⟨w.heap.size + 2 + a, c', none⟩ (.int .i64 v1)).drew := (HB3.out.setCell (by simp; omega) _).drew
            obtain ⟨w4, hw4⟩ : ∃ w4, (w3.setCell ⟨w.heap.size + 2 + a, c', none⟩ (.int .i64 v1)).drew = w4 := ⟨_, rfl⟩
            have HM4 := Lib.hid (show MatAt w4 w.heap.size i 136 22 3 i (up2 D a c' v1) by rw [← hw4]; exact hM4)
            have HB4 := Lib.hid (show Below w.heap.size w w4 by rw [← hw4]; exact hB4)
            have hs4 : w.heap.size + 2 + i ≤ w4.heap.size := by rw [← hw4]; simpa using hs3
            have z0 : w4.cell? ⟨eb, 0, none⟩ = some (.int .i64 (a : Int)) := by rw [← hw4]; simp [World.cell?_setCell_other, y0, show eb ≠ w.heap.size + 2 + a by omega, show w.heap.size + 2 + a ≠ eb by omega]
            have z1 : w4.cell? ⟨eb, 1, none⟩ = some (.int .i64 (c' : Int)) := by rw [← hw4]; simp [World.cell?_setCell_other, y1, show eb ≠ w.heap.size + 2 + a by omega, show w.heap.size + 2 + a ≠ eb by omega]
            have z2 : w4.cell? ⟨eb, 2, none⟩ = some (.int .i64 zl) := by rw [← hw4]; simp [World.cell?_setCell_other, y2, show eb ≠ w.heap.size + 2 + a by omega, show w.heap.size + 2 + a ≠ eb by omega]
            have z3 : w4.cell? ⟨eb, 3, none⟩ = some (.int .i64 zh) := by rw [← hw4]; simp [World.cell?_setCell_other, y3, show eb ≠ w.heap.size + 2 + a by omega, show w.heap.size + 2 + a ≠ eb by omega]
            rw [hw4]
            clear hw4 hM4 hB4 y0 y1 y2 y3 xb xs1 xc1 xf1 HM3 HB3
            obtain ⟨v2, hv2⟩ : ∃ v, (up2 D a c' v1) c' a = v := ⟨_, rfl⟩
            have HVB := Lib.hid (show D c' a = v2 from by rw [← hv2, up2_ne _ _ (by omega)])
            have xb := HM4.out.cbox
            have xs1 := HM4.out.csl (j := c') (by omega) (by omega)
            have xc1 := HM4.out.cat (j := c') (k := a) (by omega) (by omega)
            have xf1 := fun o => HM4.out.fz (j := c') (by omega) o
            rw [hv2] at xc1
            clear hv2
            rcases Int.lt_or_le (-zl) v2 with r1 | r1
            · (skip)
              have HV2 := Lib.hid (show min v2 (-zl) = -zl from by omega)
              go_still_tail 22, (by kernel_rfl)
              change wpList _ _ _ _ _ w4.drew
              go_wp2_with fail
              go_roundw
              case rel => exact ⟨k + 1, _, by go_num, by omega, by
                have h := (HM4.out.drewN 1).set c' a (-zl)
                exact h, by
                have h := HEE.out
                rw [HVA.out, HV1.out, HVB.out, HV2.out] at h
                exact h, by simpa using hs4, HB4.out.drew.setCell (by simp; omega) _⟩
              case measure => simp [intOf]; omega
            · (skip)
              have HV2 := Lib.hid (show min v2 (-zl) = v2 from by omega)
              go_still_tail 22, (by kernel_rfl)
              change wpList _ _ _ _ _ w4.drew
              go_wp2_with fail
              go_roundw
              case rel => exact ⟨k + 1, _, by go_num, by omega, by
                have h := (HM4.out.drewN 1).set c' a (v2)
                exact h, by
                have h := HEE.out
                rw [HVA.out, HV1.out, HVB.out, HV2.out] at h
                exact h, by simpa using hs4, HB4.out.drew.setCell (by simp; omega) _⟩
              case measure => simp [intOf]; omega
        · obtain rfl : k = n := by omega
          have hE0 := HE.out
          rw [← L1.out] at hE0
          have HF := Lib.hid (FInv.init hE0)
          clear hE0
          go_wp2_with fail
          go_loopw [96] (fun mv wx => ∃ (m : Nat) (D : Nat → Nat → Int), mv = .int .i64 m ∧ m ≤ i ∧ MatAt wx w.heap.size i 136 22 3 i D ∧ FInv i zs m 0 0 D ∧ w.heap.size + 2 + i ≤ wx.heap.size ∧ Below w.heap.size w wx) (fun mv _ => i - (intOf mv).toNat)
          case atStart => exact ⟨0, D, rfl, by omega, HM.out, HF.out, hs, HB.out⟩
          case round =>
            obtain ⟨m, D, rfl, hm, hM, hF, hs, hB⟩ := hrel
            have HM := Lib.hid hM
            have HF := Lib.hid hF
            have HB := Lib.hid hB
            clear hM hF hB
            by_cases d3 : m < i
            · have d3' : decide ((m : Int) < (i : Int)) = true := by simp; omega
              go_wp2_with fail
              go_loopw [100] (fun mv wx => ∃ (a : Nat) (D : Nat → Nat → Int), mv = .int .i64 a ∧ a ≤ i ∧ MatAt wx w.heap.size i 136 22 3 i D ∧ FInv i zs m a 0 D ∧ w.heap.size + 2 + i ≤ wx.heap.size ∧ Below w.heap.size w wx) (fun mv _ => i - (intOf mv).toNat)
              case atStart => exact ⟨0, D, rfl, by omega, HM.out, HF.out, hs, HB.out⟩
              case round =>
                obtain ⟨a, D, rfl, ha, hM, hF, hs, hB⟩ := hrel
                have HM := Lib.hid hM
                have HF := Lib.hid hF
                have HB := Lib.hid hB
                clear hM hF hB
                by_cases d4 : a < i
                · have d4' : decide ((a : Int) < (i : Int)) = true := by simp; omega
                  go_wp2_with fail
                  go_loopw [104] (fun mv wx => ∃ (b : Nat) (D : Nat → Nat → Int), mv = .int .i64 b ∧ b ≤ i ∧ MatAt wx w.heap.size i 136 22 3 i D ∧ FInv i zs m a b D ∧ w.heap.size + 2 + i ≤ wx.heap.size ∧ Below w.heap.size w wx) (fun mv _ => i - (intOf mv).toNat)
                  case atStart => exact ⟨0, D, rfl, by omega, HM.out, HF.out, hs, HB.out⟩
                  case round =>
                    obtain ⟨b, D, rfl, hb, hM, hF, hs, hB⟩ := hrel
                    have HM := Lib.hid hM
                    have HF := Lib.hid hF
                    have HB := Lib.hid hB
                    clear hM hF hB
                    by_cases d5 : b < i
                    · have d5' : decide ((b : Int) < (i : Int)) = true := by simp; omega
                      have HFS := Lib.hid (HF.out.step d3 (by omega) d4 d5)
                      have xb := HM.out.cbox
                      have xs1 := HM.out.csl (j := a) (by omega) (by omega)
                      have xs2 := HM.out.csl (j := m) (by omega) (by omega)
                      have xc1 := HM.out.cat (j := a) (k := b) (by omega) (by omega)
                      have xc2 := HM.out.cat (j := a) (k := m) (by omega) (by omega)
                      have xc3 := HM.out.cat (j := m) (k := b) (by omega) (by omega)
                      have xf1 := fun o => HM.out.fz (j := a) (by omega) o
                      have f1 := HF.out.fin (by omega) d4 d3
                      have f2 := HF.out.fin (by omega) d3 d5
                      obtain ⟨v1, hv1⟩ : ∃ v, D a b = v := ⟨_, rfl⟩
                      obtain ⟨v2, hv2⟩ : ∃ v, D a m = v := ⟨_, rfl⟩
                      obtain ⟨v3, hv3⟩ : ∃ v, D m b = v := ⟨_, rfl⟩
                      rw [hv1] at xc1
                      rw [hv2] at xc2 f1
                      rw [hv3] at xc3 f2
                      have HV1 := Lib.hid hv1
                      have HV2 := Lib.hid hv2
                      have HV3 := Lib.hid hv3
                      clear hv1 hv2 hv3
                      unfold farI at f1 f2
                      have k0 : (0 : Int) ≤ (a : Int) := by omega
                      have k2 : (0 : Int) ≤ (b : Int) := by omega
                      have k4 : (0 : Int) ≤ (m : Int) := by omega
                      have k1 : (a : Int) < (i : Int) := by omega
                      have k3 : (b : Int) < (i : Int) := by omega
                      have k5 : (m : Int) < (i : Int) := by omega
                      by_cases q1 : v2 < 1152921504606846976
                      · by_cases q2 : v3 < 1152921504606846976
                        · have f1' := f1 q1
                          have f2' := f2 q2
                          have y1 := IntWalk.i64_in (v2 + v3) (by omega)
                          have HFT := Lib.hid (show FInv i zs m a (b + 1) (up2 D a b (min v1 (v2 + v3))) from by
                            have h := HFS.out
                            rw [HV1.out, HV2.out, HV3.out, if_pos (by unfold farI; omega)] at h
                            exact h)
                          have q1' : decide (v2 < 1152921504606846976) = true := by simpa using q1
                          have q2' : decide (v3 < 1152921504606846976) = true := by simpa using q2
                          clear f1 f2
                          go_wp2_with fail
                          rcases Int.lt_or_le (v2 + v3) v1 with r1 | r1
                          · have HMN := Lib.hid (show min v1 (v2 + v3) = v2 + v3 from by omega)
                            go_still_tail 29, (by kernel_rfl)
                            change wpList _ _ _ _ _ (World.drew _)
                            go_wp2_with fail
                            go_roundw
                            case rel => exact ⟨b + 1, _, by go_num, by omega, (by have h := (HM.out.drewN 1).set a b (v2 + v3); exact h), (by have h := HFT.out; rw [HMN.out] at h; exact h), by simpa using hs, HB.out.drew.setCell (by simp; omega) _⟩
                            case measure => simp [intOf]; omega
                          · have HMN := Lib.hid (show min v1 (v2 + v3) = v1 from by omega)
                            go_still_tail 29, (by kernel_rfl)
                            change wpList _ _ _ _ _ (World.drew _)
                            go_wp2_with fail
                            go_roundw
                            case rel => exact ⟨b + 1, _, by go_num, by omega, (by have h := (HM.out.drewN 1).set a b v1; exact h), (by have h := HFT.out; rw [HMN.out] at h; exact h), by simpa using hs, HB.out.drew.setCell (by simp; omega) _⟩
                            case measure => simp [intOf]; omega
                        · have HFT := Lib.hid (show FInv i zs m a (b + 1) D from by
                            have h := HFS.out
                            rw [HV2.out, HV3.out, if_neg (by unfold farI; omega)] at h
                            exact h)
                          have q1' : decide (v2 < 1152921504606846976) = true := by simpa using q1
                          have q2' : decide (v3 < 1152921504606846976) = false := by simpa using q2
                          clear f1 f2
                          go_wp2_with fail
                          go_roundw
                          case rel => exact ⟨b + 1, D, by go_num, by omega, HM.out, HFT.out, hs, HB.out⟩
                          case measure => simp [intOf]; omega
                      · have HFT := Lib.hid (show FInv i zs m a (b + 1) D from by
                          have h := HFS.out
                          rw [HV2.out, HV3.out, if_neg (by unfold farI; omega)] at h
                          exact h)
                        have q1' : decide (v2 < 1152921504606846976) = false := by simpa using q1
                        clear f1 f2
                        go_wp2_with fail
                        go_roundw
                        case rel => exact ⟨b + 1, D, by go_num, by omega, HM.out, HFT.out, hs, HB.out⟩
                        case measure => simp [intOf]; omega
                    · obtain rfl : b = i := by omega
                      go_wp2_with fail
                      go_roundw
                      case rel => exact ⟨a + 1, D, by go_num, by omega, HM.out, HF.out.row, hs, HB.out⟩
                      case measure => simp [intOf]; omega
                · obtain rfl : a = i := by omega
                  go_wp2_with fail
                  go_roundw
                  case rel => exact ⟨m + 1, D, by go_num, by omega, HM.out, HF.out.next HL.out (by omega) (by omega), hs, HB.out⟩
                  case measure => simp [intOf]; omega
            · obtain rfl : m = i := by omega
              have HNK := Lib.hid (negB_ok HL.out h6 HF.out)
              have xb := HM.out.cbox
              have d3' : decide ((m : Int) < (m : Int)) = false := by simp
              have HUP := Lib.hid (fun w => bounds_upTo m w h1 h6)
              go_wp2_with fail
              go_region_held3 (fun w' => w'.cell? ⟨w.heap.size + 1, 0, none⟩ = some (.slice (some ⟨w.heap.size, 0, none⟩) m m)) (first | go_keep | (exact HM5.cbox))
                (first | (go_at_call 79; (with_reducible refine (HUP.out _).mono ?_); rintro e w5 ⟨⟨q, cap, rfl, ⟨q1, q2⟩, q3, q4⟩, hb5⟩; have HM5 : MatAt w5 w.heap.size m 136 22 3 m D := MatAt.below (by first | exact HM.out | exact HM.out.drewN 1 | exact (HM.out.drewN 1).drewN 1) hb5 (by simp; omega) (by simp; omega)) | (go_at_call 39; (with_reducible refine (has_closed m w.heap.size D q cap _ h6 (by first | exact HM5 | exact HM5.drewN 1 | exact (HM5.drewN 1).drewN 1) q1 q2 (by first | exact q4 | exact fun j hj => q4 j hj)).mono ?_); rintro e w' ⟨rfl, rfl⟩))
              all_goals
                go_wp2_with fail
                refine bodyPost_ret (v := .tuple #[.slice (some ⟨w.heap.size, 0, none⟩) m m, .bool (!negB m D)]) (by simp [results, Tryd.results62, go_sem]) rfl ?_
                exact ⟨D, !negB m D, rfl, HM5, HNK.out.1, HNK.out.2, HB.out.drew.trans (hb5.mono (by simp; omega))⟩
end Go.Proofs.YtmficdfihogffaaDoor
