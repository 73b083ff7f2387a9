/- order.Ranks, Could, Times, walked. -/
import Derived.Test.YthclepohilekaaaOrdH
import Derived.Laws.EntriesVeiled
namespace Go.Proofs.Ythclepohilekaaa
open Go.RowKit Go.Maps
set_option linter.unusedVariables false
set_option linter.unusedSimpArgs false
theorem isRecs_belowB {E : Type} {w w' : World} {cells : E → List Value} {ok : E → Prop} {k : Nat} {A : Option Addr} {n c B : Nat} {zs : List E} (h : IsRecs w cells ok k A n c zs) (hb : Below B w w') (hne : ∀ b off, A = some ⟨b, off, none⟩ → b < B) : IsRecs w' cells ok k A n c zs := by
  obtain ⟨h1, h2, h3, h4, h5⟩ := h
  refine ⟨h1, h2, h3, h4, fun h0 => ?_⟩
  obtain ⟨b, off, e, hb1, hc⟩ := h5 h0
  have hs := hb.size
  exact ⟨b, off, e, by omega, fun i z hz j u hu => (hb.cell (p := ⟨b, off + i * k + j, none⟩) (hne b off e)).trans (hc i z hz j u hu)⟩
theorem RkJ.belowB {A : Option Addr} {n c : Nat} {zs : List REvent} {gk gl gr mb N B : Nat} {W W' : World} (h : RkJ A n c zs gk gl gr mb N W) (hb : Below B W W') (h1 : gk < B) (h2 : gl < B) (h3 : gr < B) (h4 : mb < B) (h5 : ∀ b off, A = some ⟨b, off, none⟩ → b < B) : RkJ A n c zs gk gl gr mb N W' := by
  obtain ⟨f, hf, hk⟩ := h.mp
  exact ⟨h.kn.below hb h1, h.ls.below hb h2, h.rf.below hb h3, ⟨f, hf.below hb h4, hk⟩, isRecs_belowB h.ev hb h5, h.ne, h.eb⟩
set_option maxRecDepth 100000 in
set_option maxHeartbeats 8000000 in
theorem order_Ranks_ok (A : Option Addr) (n c : Nat) (zs : List REvent) (w : World) (h : IsRecs w REvent.cells REvent.ok 3 A n c zs) (e0 : evC zs = 0) :
    Calls Try.prog 5 #[.slice A n c] w fun e w' => ∃ B m d, e = .returned (.tuple #[.slice B m d, .nilIface]) ∧ IsInts w' B m d (rankL zs n) ∧ Below w.heap.size w w' := by
  obtain ⟨i0, hi0, hz0, hz1, hz2⟩ := info_parts infoI
  have hmm := @run_makeMap Try.prog
  obtain ⟨p1, p2⟩ := evC_0 e0
  have hl := h.1
  rw [hl] at p1
  have CK := Lib.hid (fun w' (hb : Below w.heap.size w w') => by have := order_Check A n c zs w' (h.below hb); rw [e0, errV_0] at this; exact this)
  have CR := Lib.hid (fun gk gl gr mb f i N W => order_rank A n c zs gk gl gr mb p2 p1 f i N W)
  have HMu := Lib.hid (fun i => show mu zs i < 13 from by have := mu_le zs i; rw [hl] at this; omega)
  have HLe := Lib.hid (fun k => rankV_le (zs := zs) (by rw [hl]; exact p1) k)
  have hpw : 12 * pw 13 ≤ 1000000000000000 := by decide
  have H := Lib.hid h
  have l2 := h.2.1
  have l3 := h.2.2.1
  unfold maxLen at l3
  have HAb := Lib.hid (show ∀ b off, A = some ⟨b, off, none⟩ → 0 < n → b < w.heap.size from fun b off e h0 => by
    obtain ⟨b', off', e', hb', _⟩ := h.2.2.2.2 h0
    rw [e] at e'
    simp only [Option.some.injEq, Addr.mk.injEq] at e'
    omega)
  clear h e0 p2 hl
  go_enter Try.func5, Try.ntmps5
  go_wp2_with fail
  refine (CK.out _ ((Below.refl _ w).alloc (Nat.le_refl _) _)).mono ?_
  rintro e w1 ⟨rfl, hb1⟩
  have hz1' := hb1.size
  simp at hz1'
  have bl1 : Blk w1 w.heap.size 22 #[.slice A n c] := (Blk.new w _ _).below hb1 (by simp)
  have x1 : w1.cell? ⟨w.heap.size, 0, none⟩ = some (.slice A n c) := bl1.cell 0
  have HB1 : Below w.heap.size w w1 := ((Below.refl _ w).alloc (Nat.le_refl _) _).trans (hb1.mono (by simp))
  have lx := bl1.lt
  have lx2 : w.heap.size < w1.heap.size + 1 := by omega
  have lx3 : w.heap.size < w1.heap.size + 1 + 1 := by omega
  clear hb1 CK
  go_wp2_with fail
  obtain ⟨W0, hW0⟩ : ∃ W0, ((w1.alloc (.map #[] 0)).alloc (.cells #[.map (some w1.heap.size)] 41)).alloc (.cells #[(.func (.func 10) #[] #[.pointer (some ⟨w1.heap.size + 1, 0, none⟩), .pointer (some ⟨w.heap.size, 0, none⟩), .pointer (some ⟨w1.heap.size + 1 + 1, 0, none⟩)])] 42) = W0 := ⟨_, rfl⟩
  have hs0 : W0.heap.size = w1.heap.size + 3 := by rw [← hW0]; simp
  have HB0 : Below w.heap.size w W0 := by rw [← hW0]; exact ((HB1.alloc (by omega) _).alloc (by simp; omega) _).alloc (by simp; omega) _
  have bk : Blk W0 (w1.heap.size + 1) 41 #[.map (some w1.heap.size)] := by rw [← hW0]; exact (Blk.newAt _ _ _ _ (by simp)).alloc _
  have bl : Blk W0 w.heap.size 22 #[.slice A n c] := by rw [← hW0]; exact ((bl1.alloc _).alloc _).alloc _
  have bf : Blk W0 (w1.heap.size + 1 + 1) 42 #[(.func (.func 10) #[] #[.pointer (some ⟨w1.heap.size + 1, 0, none⟩), .pointer (some ⟨w.heap.size, 0, none⟩), .pointer (some ⟨w1.heap.size + 1 + 1, 0, none⟩)])] := by rw [← hW0]; exact Blk.newAt _ _ _ _ (by simp)
  have hmp : MapF 3 W0 w1.heap.size 0 (fun _ => none) := by rw [← hW0]; exact ((MapF.made _ w1).alloc _).alloc _
  rw [hW0]
  have hev : IsRecs W0 REvent.cells REvent.ok 3 A n c zs := H.out.below HB0
  obtain ⟨S1, hS1⟩ : ∃ S, w1.heap.size = S := ⟨_, rfl⟩
  rw [hS1] at hs0 bk bf hmp hz1' ⊢
  clear hW0 x1 bl1 HB1 lx lx2 lx3 hS1 hmm
  have x1 : W0.cell? ⟨w.heap.size, 0, none⟩ = some (.slice A n c) := bl.cell 0
  rcases Nat.eq_zero_or_pos n with rfl | hn0
  · go_wp2_with fail
    refine wp_loop_rounds 1 ?_
    rw [rounds_succ]
    go_wp2_with fail
    go_ret2
    exact ⟨none, 0, 0, rfl, ints_nil _, HB0⟩
  · have hAb : ∀ b off, A = some ⟨b, off, none⟩ → b < w.heap.size := fun b off e => HAb.out b off e hn0
    have HJ0 := Lib.hid (show RkJ A n c zs (S1 + 1) w.heap.size (S1 + 1 + 1) S1 0 W0 from ⟨bk, bl, bf, ⟨_, hmp, fun x v h => by cases h⟩, hev, ⟨by omega, by omega, by omega⟩, fun b off e => by have := hAb b off e; omega⟩)
    have HAb := Lib.hid hAb
    clear bk bl bf hmp hev hAb
    go_wp2_with fail
    go_loopw [7, 18] (fun ov kv wr => ∃ k : Nat, kv = .int .i64 k ∧ k ≤ n ∧ RkJ A n c zs (S1 + 1) w.heap.size (S1 + 1 + 1) S1 (k * pw 13) wr ∧ wr.ownsRow (S1 + 3) 3 1 ov (rankL zs k).length ((rankL zs k).flatMap intCells) ∧ Below w.heap.size w wr ∧ S1 + 3 ≤ wr.heap.size) (fun _ kv _ => n - (intOf kv).toNat)
    case atStart => exact ⟨0, rfl, by omega, by simpa using HJ0.out, own_nil _ _ _ _, HB0, by omega⟩
    case round =>
      obtain ⟨k, rfl, hk, hJ, ho, hB, hs⟩ := hrel
      have HJ := Lib.hid hJ
      have HO := Lib.hid ho
      have HB := Lib.hid hB
      have v1 : wr.cell? ⟨w.heap.size, 0, none⟩ = some (.slice A n c) := hJ.ls.cell 0
      have v2 : wr.cell? ⟨S1 + 1 + 1, 0, none⟩ = some (.func (.func 10) #[] #[.pointer (some ⟨S1 + 1, 0, none⟩), .pointer (some ⟨w.heap.size, 0, none⟩), .pointer (some ⟨S1 + 1 + 1, 0, none⟩)]) := hJ.rf.cell 0
      have hlen : (rankL zs k).length = k := rankL_len zs k
      have hzw := hB.size
      clear ho hB hJ HB0 HJ0 x1
      by_cases d1 : k < n
      · have hkp : k * pw 13 + pw 13 ≤ 4611686018427387904 := by
          have h1 : (k + 1) * pw 13 ≤ 12 * pw 13 := Nat.mul_le_mul_right _ (by omega)
          rw [Nat.succ_mul] at h1
          omega
        have CRk := Lib.hid (CR.out (S1 + 1) w.heap.size (S1 + 1 + 1) S1 13 k (k * pw 13) wr HJ.out (HMu.out k) d1 hkp)
        have HN := Lib.hid (show k * pw 13 + pw 13 = (k + 1) * pw 13 from (Nat.succ_mul _ _).symm)
        have HR := Lib.hid (show rankL zs (k + 1) = rankL zs k ++ [rankV zs k] from rfl)
        have hle := HLe.out k
        obtain ⟨R, hR⟩ : ∃ R, rankV zs k = R := ⟨_, rfl⟩
        rw [hR] at CRk HR hle
        clear hR hkp hpw CR
        as_aux_lemma =>
          go_wp2_with fail
          refine CRk.out.mono ?_
          rintro e w4 ⟨rfl, hJ4, hT4⟩
          have HB4 : Below w.heap.size w w4 := HB.out.trans (hT4.below (by omega) hzw)
          have HO4 := Lib.hid (own_touched HO.out hT4 (by omega))
          have hs4 := hT4.size
          have hJ4' : RkJ A n c zs (S1 + 1) w.heap.size (S1 + 1 + 1) S1 ((k + 1) * pw 13) w4 := by have h := hJ4; rw [HN.out] at h; exact h
          have HJ4 := Lib.hid hJ4'
          clear hJ4 hT4 hJ4'
          clear HJ HO HB v1 v2 CRk
          go_wp2_with (at_builtin; refine wpList_append_own _ rfl _ _ 31 rfl (S1 + 3) 3 i0 (.int .i64 0) 1 8 Try.underlying31 hi0 hz0 hz1 hz2 rfl (by decide) _ _ _ rfl (HO4.out.alloc _) ⟨w4.heap.size, 0, none⟩ 1 1 _ rfl rfl (cell_newAt w4 (intCells R) _ _ rfl) (int_one _) (by unfold maxLen; omega) (by omega) (by simp; omega) ?_; intro v' w5 ho5 hg5 _)
          have hb45 : Below (S1 + 3) w4 w5 := ((Below.refl (S1 + 3) w4).alloc (by omega) _).grown hg5 (by simp; omega) (fun q hq => (HO4.out.lt q hq).1)
          have HB5 := Lib.hid (HB4.trans (hb45.mono (by omega)))
          have HJ5 := Lib.hid (HJ4.out.belowB hb45 (by omega) (by omega) (by omega) (by omega) (fun b off e => by have := HAb.out b off e; omega))
          have HO5 := Lib.hid (own_snoc intCells (z := R) ho5)
          have hs5 := hb45.size
          have hlen5 : (rankL zs k ++ [R]).length = (rankL zs (k + 1)).length := by rw [HR.out]
          clear ho5 hg5 hb45 HB4
          go_wp2_with fail
          go_roundw
          case rel => exact ⟨k + 1, by go_num, by omega, HJ5.out, by rw [HR.out]; exact HO5.out, HB5.out, by omega⟩
          case measure => go_light; simp [intOf]; omega
      · obtain rfl : k = n := by omega
        have hok : ∀ x ∈ rankL zs k, i64B x := fun x hx => by
          obtain ⟨i, hi, rfl⟩ := List.getElem_of_mem hx
          rw [rankL_len] at hi
          have h1 := rankL_get zs k i hi
          rw [List.getElem?_eq_getElem (by rw [rankL_len]; exact hi)] at h1
          rw [Option.some.inj h1]
          have := HLe.out i
          unfold i64B; omega
        obtain ⟨B, m, d, rfl, hI⟩ := own_recs intCells i64B 1 (fun _ => rfl) HO.out hok
        have HI := Lib.hid hI
        clear hI hok HO HJ hlen hpw
        go_wp2_with fail
        go_ret2
        exact ⟨B, m, d, rfl, HI.out, HB.out⟩
end Go.Proofs.Ythclepohilekaaa
