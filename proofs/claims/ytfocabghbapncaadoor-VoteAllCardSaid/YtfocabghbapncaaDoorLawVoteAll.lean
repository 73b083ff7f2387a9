/- Proved: noonlaw4.VoteAll answers true for every input and leaves its arguments as they were. Its conditions: none beyond the tied card's own. -/
import Derived.Test.YtfocabghbapncaaDoorDoor
import Derived.Test.YtfocabghbapncaaDoorBlk
import Derived.Test.YtfocabghbapncaaDoorLiarsV
import Derived.Deep.DeepCutAuto
import Derived.Deep.CutBlock
import Derived.Deep.Light
namespace Go.Proofs.YtfocabghbapncaaDoor.lVoteAll
open Go.ChangeShapes Go.WideShapes Go.ChangeAt Go.RowKit
set_option linter.unusedVariables false
set_option linter.unusedSimpArgs false
theorem rep_mem {α : Type} {N : Nat} {a z : α} (h : z ∈ List.replicate N a) : z = a := (List.mem_replicate.1 h).2
theorem rep_spans {N : Nat} {a : RSpan} (h1 : 1 ≤ N) (h2 : N ≤ 40) (ha : rightB a.lo a.hi = true) : spansC (List.replicate N a) = 0 := by
  unfold spansC
  rw [List.length_replicate, if_neg (by omega), if_neg (by omega), badS_no fun x hx => by rw [rep_mem hx]; exact ha]
  rfl
theorem rep_cnt (N : Nat) (a : RSpan) (x : Int) : cntS (List.replicate N a) x = if inS x a = true then N else 0 := by
  unfold cntS
  rw [List.countP_replicate]
theorem rep_most {N : Nat} {a : RSpan} (h1 : 1 ≤ N) (ha : rightB a.lo a.hi = true) : IsMost (List.replicate N a) a.lo a.hi (N : Int) := by
  have hb := rightB_iff.1 ha
  refine ⟨fun x => ?_, fun x hx => ?_, hb.1, fun x p q => ?_, ?_⟩
  · rw [rep_cnt]; split <;> omega
  · rw [rep_cnt, if_neg (by unfold inS; simp; omega)]; omega
  · rw [rep_cnt, if_pos (by unfold inS; simp; omega)]
  · rw [rep_cnt, if_neg (by unfold inS; simp; omega)]; omega
theorem rep_safe {N : Nat} {a : RSpan} (h1 : 1 ≤ N) (ha : rightB a.lo a.hi = true) : IsSafe (List.replicate N a) 1 true a.lo a.hi := by
  have hb := rightB_iff.1 ha
  refine ⟨fun _ => ⟨?_, ?_, fun x hx => ?_⟩, fun h => by cases h⟩
  · rw [rep_cnt, if_pos (by unfold inS; simp; omega)]; omega
  · rw [rep_cnt, if_pos (by unfold inS; simp; omega)]; omega
  · rw [rep_cnt] at hx
    by_cases c : inS x a = true
    · unfold inS at c; simp at c; omega
    · rw [if_neg c] at hx; omega
theorem rep_get (N : Nat) (a : RSpan) {k : Nat} (h : k < N) : (List.replicate N a).getD k default = a := by
  rw [List.getD_eq_getElem?_getD, List.getElem?_replicate, if_pos h]; rfl
theorem rep_meet (N : Nat) (a : RSpan) : ∀ k, k < N → mLo (List.replicate N a) k = a.lo ∧ mHi (List.replicate N a) k = a.hi
  | 0, h => by unfold mLo mHi; rw [rep_get N a h]; exact ⟨rfl, rfl⟩
  | k + 1, h => by
    have ih := rep_meet N a k (by omega)
    unfold mLo mHi
    rw [rep_get N a h, ih.1, ih.2]
    omega
theorem rep_liars (N : Nat) {a : RSpan} (ha : rightB a.lo a.hi = true) : ∀ k, k ≤ N → liarsL a.lo a.hi (List.replicate N a) k = []
  | 0, _ => rfl
  | k + 1, h => by
    have hb := rightB_iff.1 ha
    unfold liarsL
    rw [rep_get N a (by omega), rep_liars N ha k (by omega), if_pos (by unfold commonB; simp; omega)]
theorem rep_snoc (k : Nat) (a : RSpan) : List.replicate (k + 1) a = List.replicate k a ++ [a] := List.replicate_succ'
theorem rep_snocF (k : Nat) (a : RSpan) : (List.replicate (k + 1) a).flatMap RSpan.cells = (List.replicate k a).flatMap RSpan.cells ++ RSpan.cells a := by rw [rep_snoc]; simp
theorem infoSp : (Tryd.prog.info? 25).map (fun i => (i.zero, i.size, i.bytes)) = some (some (.agg #[.int .i64 0, .int .i64 0]), 2, 16) := by kernel_rfl
set_option maxRecDepth 100000 in
set_option maxHeartbeats 32000000 in
theorem walk (a0 : RSpan) (a1 : Int) (w : World) (h0 : a0.ok) (h1 : -9223372036854775808 ≤ a1 ∧ a1 ≤ 9223372036854775807) (hg : HandleAt w) :
    Calls Tryd.prog 4 #[.agg #[.int .i64 a0.lo, .int .i64 a0.hi], .int .i64 a1] w fun e w' => e = .returned (.bool true) ∧ Below w.heap.size w w' := by
  obtain ⟨i0, hi0, hz0, hz1, hz2⟩ := info_parts infoSp
  obtain ⟨lo, hi⟩ := a0
  have CK := span_Check lo hi (w.alloc (.cells #[.int .i64 lo, .int .i64 hi] 25))
  have CE := Lib.hid (fun c w' (hb : Below w.heap.size w w') => show Calls Tryd.prog 8 #[errV c, .int .i64 c] w' fun e w'' => e = .returned (.bool true) ∧ Below w'.heap.size w' w'' by have := Error_any c c w' (hg.below hb); simpa using this)
  have CE5 := Lib.hid (fun w' hb => show Calls Tryd.prog 8 #[.iface 49 (.int .i64 5), .int .i64 5] w' fun e w'' => e = .returned (.bool true) ∧ Below w'.heap.size w' w'' from CE.out 5 w' hb)
  have CM := Lib.hid (fun w' => vote_Meet_bad none 0 0 [] w' (recs_nil _ _ _ _) 5 rfl (by decide))
  have HW0 := Lib.hid (show Below w.heap.size w (w.alloc (.cells #[.int .i64 lo, .int .i64 hi] 25)) from (Below.refl _ w).alloc (Nat.le_refl _) _)
  have hsz : (w.alloc (.cells #[.int .i64 lo, .int .i64 hi] 25)).heap.size = w.heap.size + 1 := by simp
  cases hr : rightB lo hi
  · rw [hr, show errV (okC false) = .iface 49 (.int .i64 1) from errV_ne (by decide)] at CK
    have CK := Lib.hid CK
    clear hr hg h0 h1
    as_aux_lemma =>
      go_enter Tryd.func4, Tryd.ntmps4
      go_wp2_with fail
      refine (CK.out).mono ?_
      rintro e w1 ⟨rfl, hb1⟩
      have hz1 := hb1.size
      (try simp at hz1)
      have HB1 : Below w.heap.size w w1 := (by repeat (first | with_reducible exact Below.refl _ _ | (with_reducible refine Below.alloc ?_ (by first | omega | (simp; done) | (simp; omega)) _) | (with_reducible refine Below.setCell ?_ (by first | omega | (simp; done) | (simp; omega)) _) | (with_reducible refine Below.drew ?_) | (with_reducible refine below_drewN ?_ _) | (with_reducible assumption) | (with_reducible refine bel_step (by with_reducible assumption) ?_ (by first | omega | (simp; done) | (simp; omega)))))
      have HZ1 := HB1.size
      clear hb1 hz1
      go_wp2_with fail
      refine (CM.out _).mono ?_
      rintro e w2 ⟨rfl, hb2⟩
      have hz2 := hb2.size
      (try simp at hz2)
      have HB2 : Below w.heap.size w w2 := (by repeat (first | with_reducible exact Below.refl _ _ | (with_reducible refine Below.alloc ?_ (by first | omega | (simp; done) | (simp; omega)) _) | (with_reducible refine Below.setCell ?_ (by first | omega | (simp; done) | (simp; omega)) _) | (with_reducible refine Below.drew ?_) | (with_reducible refine below_drewN ?_ _) | (with_reducible assumption) | (with_reducible refine bel_step (by with_reducible assumption) ?_ (by first | omega | (simp; done) | (simp; omega)))))
      have HZ2 := HB2.size
      clear hb2 hz2 HB1 HZ1 
      go_wp2_with fail
      refine (CE5.out _ (by repeat (first | with_reducible exact Below.refl _ _ | (with_reducible refine Below.alloc ?_ (by first | omega | (simp; done) | (simp; omega)) _) | (with_reducible refine Below.setCell ?_ (by first | omega | (simp; done) | (simp; omega)) _) | (with_reducible refine Below.drew ?_) | (with_reducible refine below_drewN ?_ _) | (with_reducible assumption) | (with_reducible refine bel_step (by with_reducible assumption) ?_ (by first | omega | (simp; done) | (simp; omega)))))).mono ?_
      rintro e w3 ⟨rfl, hb3⟩
      have hz3 := hb3.size
      (try simp at hz3)
      have HB3 : Below w.heap.size w w3 := (by repeat (first | with_reducible exact Below.refl _ _ | (with_reducible refine Below.alloc ?_ (by first | omega | (simp; done) | (simp; omega)) _) | (with_reducible refine Below.setCell ?_ (by first | omega | (simp; done) | (simp; omega)) _) | (with_reducible refine Below.drew ?_) | (with_reducible refine below_drewN ?_ _) | (with_reducible assumption) | (with_reducible refine bel_step (by with_reducible assumption) ?_ (by first | omega | (simp; done) | (simp; omega)))))
      have HZ3 := HB3.size
      clear hb3 hz3 HB2 HZ2 
      go_wp2_with fail
      go_ret
      exact ⟨rfl, HB3⟩
  · rw [hr, show errV (okC true) = .nilIface from rfl] at CK
    have CK := Lib.hid CK
    by_cases hn : 1 ≤ a1 ∧ a1 ≤ 40
    · obtain ⟨N, hN⟩ : ∃ N : Nat, a1 = (N : Int) := ⟨a1.toNat, by omega⟩
      subst hN
      have n1 : 1 ≤ N := by omega
      have n2 : N ≤ 40 := by omega
      have a1' : ¬ (N : Int) < 1 := by omega
      have a2' : ¬ (40 : Int) < (N : Int) := by omega
      have hok : RSpan.ok ⟨lo, hi⟩ := h0
      have HR := Lib.hid hr
      have HOK := Lib.hid hok
      have hwn := IntWalk.i64_in ((N : Int) - 1) (by omega)
      clear hr hg h0 h1 hn hok CM CE5
      go_enter Tryd.func4, Tryd.ntmps4
      go_wp2_with fail
      refine (CK.out).mono ?_
      rintro e w1 ⟨rfl, hb1⟩
      have hz1 := hb1.size
      (try simp at hz1)
      have bp1 : Blk w1 (w.heap.size) 25 #[.int .i64 lo, .int .i64 hi] := (by refine BlkG.start ?_; (repeat (first | ((with_reducible apply BlkG.done); (with_reducible assumption); exact rfl) | (with_reducible exact BlkG.newAt (by first | (with_reducible rfl) | omega | (simp; done) | (simp; omega)) rfl) | (with_reducible refine BlkG.drew ?_) | (with_reducible refine BlkG.drewN ?_) | (with_reducible refine BlkG.set ?_) | (with_reducible refine BlkG.far (by first | omega | (simp; done) | (simp; omega)) ?_) | (with_reducible refine BlkG.alloc ?_) | (with_reducible refine BlkG.bel (by with_reducible assumption) (by first | omega | (simp; done) | (simp; omega)) ?_))))
      have cp1_0 : w1.cell? ⟨w.heap.size, 0, none⟩ = some (.int .i64 lo) := bp1.cell 0
      have fp1_0 : w1.frozen? ⟨w.heap.size, 0, none⟩ = false := bp1.fz 0
      have cp1_1 : w1.cell? ⟨w.heap.size, 1, none⟩ = some (.int .i64 hi) := bp1.cell 1
      have fp1_1 : w1.frozen? ⟨w.heap.size, 1, none⟩ = false := bp1.fz 1
      have lp1 : w.heap.size < w1.heap.size := bp1.lt
      have HB1 : Below w.heap.size w w1 := (by repeat (first | with_reducible exact Below.refl _ _ | (with_reducible refine Below.alloc ?_ (by first | omega | (simp; done) | (simp; omega)) _) | (with_reducible refine Below.setCell ?_ (by first | omega | (simp; done) | (simp; omega)) _) | (with_reducible refine Below.drew ?_) | (with_reducible refine below_drewN ?_ _) | (with_reducible assumption) | (with_reducible refine bel_step (by with_reducible assumption) ?_ (by first | omega | (simp; done) | (simp; omega)))))
      have HZ1 := HB1.size
      clear hb1 hz1
      go_wp2_with fail
      go_loopw [7, 8] (fun ov kv wr => ∃ k : Nat, kv = .int .i64 k ∧ k ≤ N ∧ wr.ownsRow (w.heap.size + 1) 25 2 ov k ((List.replicate k (⟨lo, hi⟩ : RSpan)).flatMap RSpan.cells) ∧ Blk wr w.heap.size 25 #[.int .i64 lo, .int .i64 hi] ∧ Below w.heap.size w wr) (fun _ kv _ => N - (intOf kv).toNat)
      case atStart => exact ⟨0, rfl, by omega, own_nil _ _ _ _, bp1, HB1⟩
      case round =>
        obtain ⟨k, rfl, hk, ho, bpr, HBr⟩ := hrel
        have HO := Lib.hid ho
        have HZr := HBr.size
        have cpr_0 : wr.cell? ⟨w.heap.size, 0, none⟩ = some (.int .i64 lo) := bpr.cell 0
        have fpr_0 : wr.frozen? ⟨w.heap.size, 0, none⟩ = false := bpr.fz 0
        have cpr_1 : wr.cell? ⟨w.heap.size, 1, none⟩ = some (.int .i64 hi) := bpr.cell 1
        have fpr_1 : wr.frozen? ⟨w.heap.size, 1, none⟩ = false := bpr.fz 1
        have lpr := bpr.lt
        clear ho bp1 cp1_0 cp1_1 fp1_0 fp1_1 lp1 HB1 HZ1
        by_cases d1 : k < N
        · have hrw := Lib.hid (rep_snocF k ⟨lo, hi⟩)
          as_aux_lemma =>
            go_wp2_with (at_builtin; refine wpList_append_own _ rfl _ _ 22 rfl (w.heap.size + 1) 25 i0 (.agg #[.int .i64 0, .int .i64 0]) 2 16 Tryd.underlying22 hi0 hz0 hz1 hz2 rfl (by decide) _ _ _ rfl (HO.out.alloc _) ⟨wr.heap.size, 0, none⟩ 1 1 _ rfl rfl (cell_newAt wr (RSpan.cells ⟨lo, hi⟩) _ _ rfl) (span_one ⟨lo, hi⟩) (by unfold maxLen; omega) (by omega) (by simp; omega) ?_; intro v' w7 ho7 hg7 _)
            have HB7 : Below w.heap.size w w7 := (HBr.alloc (by omega) _).grown hg7 (by simp; omega) (fun q hq => by have := (HO.out.lt q hq).1; omega)
            have HO7 := Lib.hid (show w7.ownsRow (w.heap.size + 1) 25 2 v' (k + 1) ((List.replicate (k + 1) (⟨lo, hi⟩ : RSpan)).flatMap RSpan.cells) from by rw [hrw.out]; exact ho7)
            have BP7 := Lib.hid ((bpr.alloc _).grown hg7 (fun hq => by have := (HO.out.lt _ hq.symm).1; omega))
            clear ho7 hg7
            go_wp2_with fail
            go_roundw
            case rel => exact ⟨k + 1, by go_num, by omega, HO7.out, BP7.out, HB7⟩
            case measure => go_light; simp [intOf]; omega
        · obtain rfl : k = N := by omega
          obtain ⟨A, n, c, rfl, hI⟩ := own_recs (zs := List.replicate k (⟨lo, hi⟩ : RSpan)) RSpan.cells RSpan.ok 2 (fun _ => rfl) (by rw [List.length_replicate]; exact HO.out) (fun x hx => by rw [rep_mem hx]; exact HOK.out)
          have hn : n = k := by have := hI.1; rw [List.length_replicate] at this; exact this.symm
          subst hn
          have e0 : spansC (List.replicate n (⟨lo, hi⟩ : RSpan)) = 0 := rep_spans n1 n2 HR.out
          have HIr : IsRecs wr RSpan.cells RSpan.ok 2 A n c (List.replicate n ⟨lo, hi⟩) := hI
          have hM := rep_meet n (⟨lo, hi⟩ : RSpan) (n - 1) (by omega)
          have p3 : ∀ x ∈ List.replicate n (⟨lo, hi⟩ : RSpan), spB x = true := fun x hx => by rw [rep_mem hx]; exact HR.out
          have hb0 := (rightB_iff.1 HR.out).1
          have C1 := Lib.hid (fun w' h => (vote_Meet_any A n c _ w' h e0).mono (R' := fun e w'' => e = .returned (.tuple #[.agg #[.int .i64 lo, .int .i64 hi], .nilIface]) ∧ Below w'.heap.size w' w'') fun e w'' ⟨h, hb⟩ => by
            rw [hM.1, hM.2] at h
            refine ⟨?_, hb⟩
            rcases h with ⟨lo', hi', rfl, rfl, g2, rfl⟩ | ⟨g2, rfl⟩
            · rfl
            · exfalso; simp only [] at g2; omega)
          have C2 := Lib.hid (fun w' h => (vote_Most A n c _ w' h e0).mono (R' := fun e w'' => e = .returned (.tuple #[.agg #[.int .i64 lo, .int .i64 hi], .int .i64 (n : Int), .nilIface]) ∧ Below w'.heap.size w' w'') fun e w'' ⟨es, lo', hi', top', he, hp, hs, hm, hb⟩ => by
            have h2 : IsMost (List.replicate n (⟨lo, hi⟩ : RSpan)) lo' hi' top' := most_is hp hs p3 (by rw [List.length_replicate]; omega) (by rw [hp.length_eq, edgesL_len, List.length_replicate]; exact hm)
            obtain ⟨e1, e2, e3⟩ := (rep_most n1 HR.out).uniq h2
            simp only [] at e1 e2
            subst e1; subst e2; subst e3
            exact ⟨he, hb⟩)
          have C3 := Lib.hid (fun w' h => (vote_Liars A n c _ w' h e0).mono (R' := fun e w'' => ∃ (B : Option Addr) (d : Nat), e = .returned (.tuple #[.slice B 0 d, .nilIface]) ∧ Below w'.heap.size w' w'') fun e w'' ⟨lo', hi', top', B, m, d, he, hm, hI, hb⟩ => by
            obtain ⟨e1, e2, e3⟩ := (rep_most n1 HR.out).uniq hm
            simp only [] at e1 e2
            subst e1; subst e2
            have hl := hI.1
            rw [rep_liars n (a := ⟨lo, hi⟩) HR.out n (Nat.le_refl _)] at hl
            obtain rfl : m = 0 := by simpa using hl.symm
            exact ⟨B, d, he, hb⟩)
          have C4 := Lib.hid (fun w' h => (vote_Safe A n c ((n : Int) - 1) _ w' h e0 (by omega)).mono (R' := fun e w'' => e = .returned (.tuple #[.agg #[.int .i64 lo, .int .i64 hi], .nilIface]) ∧ Below w'.heap.size w' w'') fun e w'' ⟨es, fd', lo', hi', he, hp, hs, hm, hb⟩ => by
            have hd : (n : Int) - ((n : Int) - 1) = 1 := by omega
            rw [hd] at hm
            have h2 : IsSafe (List.replicate n (⟨lo, hi⟩ : RSpan)) 1 fd' lo' hi' := safe_is hp hs p3 (by rw [List.length_replicate]; omega) (by omega) (by rw [hp.length_eq, edgesL_len, List.length_replicate]; exact hm)
            obtain ⟨e1, e2⟩ := (rep_safe n1 HR.out).uniq h2
            subst e1
            obtain ⟨e3, e4⟩ := e2 rfl
            simp only [] at e3 e4
            subst e3; subst e4
            exact ⟨he, hb⟩)
          clear hI HO e0 hM p3 hb0 d1
          go_wp2_with fail
          refine (C1.out _ HIr).mono ?_
          rintro e w2 ⟨rfl, hb2⟩
          have hz2 := hb2.size
          (try simp at hz2)
          have bp2 : Blk w2 (w.heap.size) 25 #[.int .i64 lo, .int .i64 hi] := (by refine BlkG.start ?_; (repeat (first | ((with_reducible apply BlkG.done); (with_reducible assumption); exact rfl) | (with_reducible exact BlkG.newAt (by first | (with_reducible rfl) | omega | (simp; done) | (simp; omega)) rfl) | (with_reducible refine BlkG.drew ?_) | (with_reducible refine BlkG.drewN ?_) | (with_reducible refine BlkG.set ?_) | (with_reducible refine BlkG.far (by first | omega | (simp; done) | (simp; omega)) ?_) | (with_reducible refine BlkG.alloc ?_) | (with_reducible refine BlkG.bel (by with_reducible assumption) (by first | omega | (simp; done) | (simp; omega)) ?_))))
          have cp2_0 : w2.cell? ⟨w.heap.size, 0, none⟩ = some (.int .i64 lo) := bp2.cell 0
          have fp2_0 : w2.frozen? ⟨w.heap.size, 0, none⟩ = false := bp2.fz 0
          have cp2_1 : w2.cell? ⟨w.heap.size, 1, none⟩ = some (.int .i64 hi) := bp2.cell 1
          have fp2_1 : w2.frozen? ⟨w.heap.size, 1, none⟩ = false := bp2.fz 1
          have lp2 : w.heap.size < w2.heap.size := bp2.lt
          have HI2 : IsRecs w2 RSpan.cells RSpan.ok 2 A n c (List.replicate n ⟨lo, hi⟩) := IsRecs.below HIr (show Below wr.heap.size wr w2 from (by repeat (first | with_reducible exact Below.refl _ _ | (with_reducible refine Below.alloc ?_ (by first | omega | (simp; done) | (simp; omega)) _) | (with_reducible refine Below.setCell ?_ (by first | omega | (simp; done) | (simp; omega)) _) | (with_reducible refine Below.drew ?_) | (with_reducible refine below_drewN ?_ _) | (with_reducible assumption) | (with_reducible refine bel_step (by with_reducible assumption) ?_ (by first | omega | (simp; done) | (simp; omega))))))
          have HB2 : Below w.heap.size w w2 := (by repeat (first | with_reducible exact Below.refl _ _ | (with_reducible refine Below.alloc ?_ (by first | omega | (simp; done) | (simp; omega)) _) | (with_reducible refine Below.setCell ?_ (by first | omega | (simp; done) | (simp; omega)) _) | (with_reducible refine Below.drew ?_) | (with_reducible refine below_drewN ?_ _) | (with_reducible assumption) | (with_reducible refine bel_step (by with_reducible assumption) ?_ (by first | omega | (simp; done) | (simp; omega)))))
          have HZ2 := HB2.size
          clear hb2 hz2 HBr HZr bpr lpr cpr_0 fpr_0 cpr_1 fpr_1  HIr
          go_wp2_with fail
          refine (C2.out _ (HI2.below (by repeat (first | with_reducible exact Below.refl _ _ | (with_reducible refine Below.alloc ?_ (by first | omega | (simp; done) | (simp; omega)) _) | (with_reducible refine Below.setCell ?_ (by first | omega | (simp; done) | (simp; omega)) _) | (with_reducible refine Below.drew ?_) | (with_reducible refine below_drewN ?_ _) | (with_reducible assumption) | (with_reducible refine bel_step (by with_reducible assumption) ?_ (by first | omega | (simp; done) | (simp; omega))))))).mono ?_
          rintro e w3 ⟨rfl, hb3⟩
          have hz3 := hb3.size
          (try simp at hz3)
          have agm : w.heap.size ≤ w2.heap.size := by (try simp); omega
          have omp : w.heap.size < w2.heap.size := by (try simp); omega
          have bp3 : Blk w3 (w.heap.size) 25 #[.int .i64 lo, .int .i64 hi] := (by refine BlkG.start ?_; (repeat (first | ((with_reducible apply BlkG.done); (with_reducible assumption); exact rfl) | (with_reducible exact BlkG.newAt (by first | (with_reducible rfl) | omega | (simp; done) | (simp; omega)) rfl) | (with_reducible refine BlkG.drew ?_) | (with_reducible refine BlkG.drewN ?_) | (with_reducible refine BlkG.set ?_) | (with_reducible refine BlkG.far (by first | omega | (simp; done) | (simp; omega)) ?_) | (with_reducible refine BlkG.alloc ?_) | (with_reducible refine BlkG.bel (by with_reducible assumption) (by first | omega | (simp; done) | (simp; omega)) ?_))))
          have cp3_0 : w3.cell? ⟨w.heap.size, 0, none⟩ = some (.int .i64 lo) := bp3.cell 0
          have fp3_0 : w3.frozen? ⟨w.heap.size, 0, none⟩ = false := bp3.fz 0
          have cp3_1 : w3.cell? ⟨w.heap.size, 1, none⟩ = some (.int .i64 hi) := bp3.cell 1
          have fp3_1 : w3.frozen? ⟨w.heap.size, 1, none⟩ = false := bp3.fz 1
          have lp3 : w.heap.size < w3.heap.size := bp3.lt
          have bm3 : Blk w3 (w2.heap.size) 25 #[.int .i64 lo, .int .i64 hi] := (by refine BlkG.start ?_; (repeat (first | ((with_reducible apply BlkG.done); (with_reducible assumption); exact rfl) | (with_reducible exact BlkG.newAt (by first | (with_reducible rfl) | omega | (simp; done) | (simp; omega)) rfl) | (with_reducible refine BlkG.drew ?_) | (with_reducible refine BlkG.drewN ?_) | (with_reducible refine BlkG.set ?_) | (with_reducible refine BlkG.far (by first | omega | (simp; done) | (simp; omega)) ?_) | (with_reducible refine BlkG.alloc ?_) | (with_reducible refine BlkG.bel (by with_reducible assumption) (by first | omega | (simp; done) | (simp; omega)) ?_))))
          have cm3_0 : w3.cell? ⟨w2.heap.size, 0, none⟩ = some (.int .i64 lo) := bm3.cell 0
          have fm3_0 : w3.frozen? ⟨w2.heap.size, 0, none⟩ = false := bm3.fz 0
          have cm3_1 : w3.cell? ⟨w2.heap.size, 1, none⟩ = some (.int .i64 hi) := bm3.cell 1
          have fm3_1 : w3.frozen? ⟨w2.heap.size, 1, none⟩ = false := bm3.fz 1
          have lm3 : w2.heap.size < w3.heap.size := bm3.lt
          have HI3 : IsRecs w3 RSpan.cells RSpan.ok 2 A n c (List.replicate n ⟨lo, hi⟩) := IsRecs.below HI2 (show Below w2.heap.size w2 w3 from (by repeat (first | with_reducible exact Below.refl _ _ | (with_reducible refine Below.alloc ?_ (by first | omega | (simp; done) | (simp; omega)) _) | (with_reducible refine Below.setCell ?_ (by first | omega | (simp; done) | (simp; omega)) _) | (with_reducible refine Below.drew ?_) | (with_reducible refine below_drewN ?_ _) | (with_reducible assumption) | (with_reducible refine bel_step (by with_reducible assumption) ?_ (by first | omega | (simp; done) | (simp; omega))))))
          have HB3 : Below w.heap.size w w3 := (by repeat (first | with_reducible exact Below.refl _ _ | (with_reducible refine Below.alloc ?_ (by first | omega | (simp; done) | (simp; omega)) _) | (with_reducible refine Below.setCell ?_ (by first | omega | (simp; done) | (simp; omega)) _) | (with_reducible refine Below.drew ?_) | (with_reducible refine below_drewN ?_ _) | (with_reducible assumption) | (with_reducible refine bel_step (by with_reducible assumption) ?_ (by first | omega | (simp; done) | (simp; omega)))))
          have HZ3 := HB3.size
          clear hb3 hz3 HB2 HZ2 bp2 lp2 cp2_0 fp2_0 cp2_1 fp2_1  HI2
          go_wp2_with fail
          refine (C3.out _ (HI3.below (by repeat (first | with_reducible exact Below.refl _ _ | (with_reducible refine Below.alloc ?_ (by first | omega | (simp; done) | (simp; omega)) _) | (with_reducible refine Below.setCell ?_ (by first | omega | (simp; done) | (simp; omega)) _) | (with_reducible refine Below.drew ?_) | (with_reducible refine below_drewN ?_ _) | (with_reducible assumption) | (with_reducible refine bel_step (by with_reducible assumption) ?_ (by first | omega | (simp; done) | (simp; omega))))))).mono ?_
          rintro e w4 ⟨B, d, rfl, hb4⟩
          have hz4 := hb4.size
          (try simp at hz4)
          have agt : w.heap.size ≤ w3.heap.size := by (try simp); omega
          have otp : w.heap.size < w3.heap.size := by (try simp); omega
          have otm : w2.heap.size < w3.heap.size := by (try simp); omega
          have bp4 : Blk w4 (w.heap.size) 25 #[.int .i64 lo, .int .i64 hi] := (by refine BlkG.start ?_; (repeat (first | ((with_reducible apply BlkG.done); (with_reducible assumption); exact rfl) | (with_reducible exact BlkG.newAt (by first | (with_reducible rfl) | omega | (simp; done) | (simp; omega)) rfl) | (with_reducible refine BlkG.drew ?_) | (with_reducible refine BlkG.drewN ?_) | (with_reducible refine BlkG.set ?_) | (with_reducible refine BlkG.far (by first | omega | (simp; done) | (simp; omega)) ?_) | (with_reducible refine BlkG.alloc ?_) | (with_reducible refine BlkG.bel (by with_reducible assumption) (by first | omega | (simp; done) | (simp; omega)) ?_))))
          have cp4_0 : w4.cell? ⟨w.heap.size, 0, none⟩ = some (.int .i64 lo) := bp4.cell 0
          have fp4_0 : w4.frozen? ⟨w.heap.size, 0, none⟩ = false := bp4.fz 0
          have cp4_1 : w4.cell? ⟨w.heap.size, 1, none⟩ = some (.int .i64 hi) := bp4.cell 1
          have fp4_1 : w4.frozen? ⟨w.heap.size, 1, none⟩ = false := bp4.fz 1
          have lp4 : w.heap.size < w4.heap.size := bp4.lt
          have bm4 : Blk w4 (w2.heap.size) 25 #[.int .i64 lo, .int .i64 hi] := (by refine BlkG.start ?_; (repeat (first | ((with_reducible apply BlkG.done); (with_reducible assumption); exact rfl) | (with_reducible exact BlkG.newAt (by first | (with_reducible rfl) | omega | (simp; done) | (simp; omega)) rfl) | (with_reducible refine BlkG.drew ?_) | (with_reducible refine BlkG.drewN ?_) | (with_reducible refine BlkG.set ?_) | (with_reducible refine BlkG.far (by first | omega | (simp; done) | (simp; omega)) ?_) | (with_reducible refine BlkG.alloc ?_) | (with_reducible refine BlkG.bel (by with_reducible assumption) (by first | omega | (simp; done) | (simp; omega)) ?_))))
          have cm4_0 : w4.cell? ⟨w2.heap.size, 0, none⟩ = some (.int .i64 lo) := bm4.cell 0
          have fm4_0 : w4.frozen? ⟨w2.heap.size, 0, none⟩ = false := bm4.fz 0
          have cm4_1 : w4.cell? ⟨w2.heap.size, 1, none⟩ = some (.int .i64 hi) := bm4.cell 1
          have fm4_1 : w4.frozen? ⟨w2.heap.size, 1, none⟩ = false := bm4.fz 1
          have lm4 : w2.heap.size < w4.heap.size := bm4.lt
          have bt4 : Blk w4 (w3.heap.size) 25 #[.int .i64 lo, .int .i64 hi] := (by refine BlkG.start ?_; (repeat (first | ((with_reducible apply BlkG.done); (with_reducible assumption); exact rfl) | (with_reducible exact BlkG.newAt (by first | (with_reducible rfl) | omega | (simp; done) | (simp; omega)) rfl) | (with_reducible refine BlkG.drew ?_) | (with_reducible refine BlkG.drewN ?_) | (with_reducible refine BlkG.set ?_) | (with_reducible refine BlkG.far (by first | omega | (simp; done) | (simp; omega)) ?_) | (with_reducible refine BlkG.alloc ?_) | (with_reducible refine BlkG.bel (by with_reducible assumption) (by first | omega | (simp; done) | (simp; omega)) ?_))))
          have ct4_0 : w4.cell? ⟨w3.heap.size, 0, none⟩ = some (.int .i64 lo) := bt4.cell 0
          have ft4_0 : w4.frozen? ⟨w3.heap.size, 0, none⟩ = false := bt4.fz 0
          have ct4_1 : w4.cell? ⟨w3.heap.size, 1, none⟩ = some (.int .i64 hi) := bt4.cell 1
          have ft4_1 : w4.frozen? ⟨w3.heap.size, 1, none⟩ = false := bt4.fz 1
          have lt4 : w3.heap.size < w4.heap.size := bt4.lt
          have HI4 : IsRecs w4 RSpan.cells RSpan.ok 2 A n c (List.replicate n ⟨lo, hi⟩) := IsRecs.below HI3 (show Below w3.heap.size w3 w4 from (by repeat (first | with_reducible exact Below.refl _ _ | (with_reducible refine Below.alloc ?_ (by first | omega | (simp; done) | (simp; omega)) _) | (with_reducible refine Below.setCell ?_ (by first | omega | (simp; done) | (simp; omega)) _) | (with_reducible refine Below.drew ?_) | (with_reducible refine below_drewN ?_ _) | (with_reducible assumption) | (with_reducible refine bel_step (by with_reducible assumption) ?_ (by first | omega | (simp; done) | (simp; omega))))))
          have HB4 : Below w.heap.size w w4 := (by repeat (first | with_reducible exact Below.refl _ _ | (with_reducible refine Below.alloc ?_ (by first | omega | (simp; done) | (simp; omega)) _) | (with_reducible refine Below.setCell ?_ (by first | omega | (simp; done) | (simp; omega)) _) | (with_reducible refine Below.drew ?_) | (with_reducible refine below_drewN ?_ _) | (with_reducible assumption) | (with_reducible refine bel_step (by with_reducible assumption) ?_ (by first | omega | (simp; done) | (simp; omega)))))
          have HZ4 := HB4.size
          clear hb4 hz4 HB3 HZ3 bp3 lp3 cp3_0 fp3_0 cp3_1 fp3_1 bm3 lm3 cm3_0 fm3_0 cm3_1 fm3_1  HI3
          go_wp2_with fail
          refine (C4.out _ HI4).mono ?_
          rintro e w5 ⟨rfl, hb5⟩
          have hz5 := hb5.size
          (try simp at hz5)
          have bp5 : Blk w5 (w.heap.size) 25 #[.int .i64 lo, .int .i64 hi] := (by refine BlkG.start ?_; (repeat (first | ((with_reducible apply BlkG.done); (with_reducible assumption); exact rfl) | (with_reducible exact BlkG.newAt (by first | (with_reducible rfl) | omega | (simp; done) | (simp; omega)) rfl) | (with_reducible refine BlkG.drew ?_) | (with_reducible refine BlkG.drewN ?_) | (with_reducible refine BlkG.set ?_) | (with_reducible refine BlkG.far (by first | omega | (simp; done) | (simp; omega)) ?_) | (with_reducible refine BlkG.alloc ?_) | (with_reducible refine BlkG.bel (by with_reducible assumption) (by first | omega | (simp; done) | (simp; omega)) ?_))))
          have cp5_0 : w5.cell? ⟨w.heap.size, 0, none⟩ = some (.int .i64 lo) := bp5.cell 0
          have fp5_0 : w5.frozen? ⟨w.heap.size, 0, none⟩ = false := bp5.fz 0
          have cp5_1 : w5.cell? ⟨w.heap.size, 1, none⟩ = some (.int .i64 hi) := bp5.cell 1
          have fp5_1 : w5.frozen? ⟨w.heap.size, 1, none⟩ = false := bp5.fz 1
          have lp5 : w.heap.size < w5.heap.size := bp5.lt
          have bm5 : Blk w5 (w2.heap.size) 25 #[.int .i64 lo, .int .i64 hi] := (by refine BlkG.start ?_; (repeat (first | ((with_reducible apply BlkG.done); (with_reducible assumption); exact rfl) | (with_reducible exact BlkG.newAt (by first | (with_reducible rfl) | omega | (simp; done) | (simp; omega)) rfl) | (with_reducible refine BlkG.drew ?_) | (with_reducible refine BlkG.drewN ?_) | (with_reducible refine BlkG.set ?_) | (with_reducible refine BlkG.far (by first | omega | (simp; done) | (simp; omega)) ?_) | (with_reducible refine BlkG.alloc ?_) | (with_reducible refine BlkG.bel (by with_reducible assumption) (by first | omega | (simp; done) | (simp; omega)) ?_))))
          have cm5_0 : w5.cell? ⟨w2.heap.size, 0, none⟩ = some (.int .i64 lo) := bm5.cell 0
          have fm5_0 : w5.frozen? ⟨w2.heap.size, 0, none⟩ = false := bm5.fz 0
          have cm5_1 : w5.cell? ⟨w2.heap.size, 1, none⟩ = some (.int .i64 hi) := bm5.cell 1
          have fm5_1 : w5.frozen? ⟨w2.heap.size, 1, none⟩ = false := bm5.fz 1
          have lm5 : w2.heap.size < w5.heap.size := bm5.lt
          have bt5 : Blk w5 (w3.heap.size) 25 #[.int .i64 lo, .int .i64 hi] := (by refine BlkG.start ?_; (repeat (first | ((with_reducible apply BlkG.done); (with_reducible assumption); exact rfl) | (with_reducible exact BlkG.newAt (by first | (with_reducible rfl) | omega | (simp; done) | (simp; omega)) rfl) | (with_reducible refine BlkG.drew ?_) | (with_reducible refine BlkG.drewN ?_) | (with_reducible refine BlkG.set ?_) | (with_reducible refine BlkG.far (by first | omega | (simp; done) | (simp; omega)) ?_) | (with_reducible refine BlkG.alloc ?_) | (with_reducible refine BlkG.bel (by with_reducible assumption) (by first | omega | (simp; done) | (simp; omega)) ?_))))
          have ct5_0 : w5.cell? ⟨w3.heap.size, 0, none⟩ = some (.int .i64 lo) := bt5.cell 0
          have ft5_0 : w5.frozen? ⟨w3.heap.size, 0, none⟩ = false := bt5.fz 0
          have ct5_1 : w5.cell? ⟨w3.heap.size, 1, none⟩ = some (.int .i64 hi) := bt5.cell 1
          have ft5_1 : w5.frozen? ⟨w3.heap.size, 1, none⟩ = false := bt5.fz 1
          have lt5 : w3.heap.size < w5.heap.size := bt5.lt
          have HB5 : Below w.heap.size w w5 := (by repeat (first | with_reducible exact Below.refl _ _ | (with_reducible refine Below.alloc ?_ (by first | omega | (simp; done) | (simp; omega)) _) | (with_reducible refine Below.setCell ?_ (by first | omega | (simp; done) | (simp; omega)) _) | (with_reducible refine Below.drew ?_) | (with_reducible refine below_drewN ?_ _) | (with_reducible assumption) | (with_reducible refine bel_step (by with_reducible assumption) ?_ (by first | omega | (simp; done) | (simp; omega)))))
          have HZ5 := HB5.size
          clear hb5 hz5 HB4 HZ4 bp4 lp4 cp4_0 fp4_0 cp4_1 fp4_1 bm4 lm4 cm4_0 fm4_0 cm4_1 fm4_1 bt4 lt4 ct4_0 ft4_0 ct4_1 ft4_1 
          go_wp2_with fail
          go_ret
          exact ⟨rfl, (by repeat (first | with_reducible exact Below.refl _ _ | (with_reducible refine Below.alloc ?_ (by first | omega | (simp; done) | (simp; omega)) _) | (with_reducible refine Below.setCell ?_ (by first | omega | (simp; done) | (simp; omega)) _) | (with_reducible refine Below.drew ?_) | (with_reducible refine below_drewN ?_ _) | (with_reducible assumption) | (with_reducible refine bel_step (by with_reducible assumption) ?_ (by first | omega | (simp; done) | (simp; omega)))))⟩
    · rcases (by omega : a1 < 1 ∨ (¬ a1 < 1 ∧ 40 < a1)) with d1 | ⟨d1, d2⟩
      all_goals
        clear hr hg h0 h1 hn
        as_aux_lemma =>
          go_enter Tryd.func4, Tryd.ntmps4
          go_wp2_with fail
          refine (CK.out).mono ?_
          rintro e w1 ⟨rfl, hb1⟩
          have hz1 := hb1.size
          (try simp at hz1)
          have HB1 : Below w.heap.size w w1 := (by repeat (first | with_reducible exact Below.refl _ _ | (with_reducible refine Below.alloc ?_ (by first | omega | (simp; done) | (simp; omega)) _) | (with_reducible refine Below.setCell ?_ (by first | omega | (simp; done) | (simp; omega)) _) | (with_reducible refine Below.drew ?_) | (with_reducible refine below_drewN ?_ _) | (with_reducible assumption) | (with_reducible refine bel_step (by with_reducible assumption) ?_ (by first | omega | (simp; done) | (simp; omega)))))
          have HZ1 := HB1.size
          clear hb1 hz1
          go_wp2_with fail
          refine (CM.out _).mono ?_
          rintro e w2 ⟨rfl, hb2⟩
          have hz2 := hb2.size
          (try simp at hz2)
          have HB2 : Below w.heap.size w w2 := (by repeat (first | with_reducible exact Below.refl _ _ | (with_reducible refine Below.alloc ?_ (by first | omega | (simp; done) | (simp; omega)) _) | (with_reducible refine Below.setCell ?_ (by first | omega | (simp; done) | (simp; omega)) _) | (with_reducible refine Below.drew ?_) | (with_reducible refine below_drewN ?_ _) | (with_reducible assumption) | (with_reducible refine bel_step (by with_reducible assumption) ?_ (by first | omega | (simp; done) | (simp; omega)))))
          have HZ2 := HB2.size
          clear hb2 hz2 HB1 HZ1 
          go_wp2_with fail
          refine (CE5.out _ (by repeat (first | with_reducible exact Below.refl _ _ | (with_reducible refine Below.alloc ?_ (by first | omega | (simp; done) | (simp; omega)) _) | (with_reducible refine Below.setCell ?_ (by first | omega | (simp; done) | (simp; omega)) _) | (with_reducible refine Below.drew ?_) | (with_reducible refine below_drewN ?_ _) | (with_reducible assumption) | (with_reducible refine bel_step (by with_reducible assumption) ?_ (by first | omega | (simp; done) | (simp; omega)))))).mono ?_
          rintro e w3 ⟨rfl, hb3⟩
          have hz3 := hb3.size
          (try simp at hz3)
          have HB3 : Below w.heap.size w w3 := (by repeat (first | with_reducible exact Below.refl _ _ | (with_reducible refine Below.alloc ?_ (by first | omega | (simp; done) | (simp; omega)) _) | (with_reducible refine Below.setCell ?_ (by first | omega | (simp; done) | (simp; omega)) _) | (with_reducible refine Below.drew ?_) | (with_reducible refine below_drewN ?_ _) | (with_reducible assumption) | (with_reducible refine bel_step (by with_reducible assumption) ?_ (by first | omega | (simp; done) | (simp; omega)))))
          have HZ3 := HB3.size
          clear hb3 hz3 HB2 HZ2 
          go_wp2_with fail
          go_ret
          exact ⟨rfl, HB3⟩

set_option maxRecDepth 100000 in
theorem lifted (os : Os) (started : os.Started) (H : Type) (enc : TypeId × Value → H) :
    ReturnsInHanded {} Tryd.checked os 4 .any (fun w args => (Rows.voteAllSpec.pre enc Tryd.prog Tryd.f4 [] false w args ∧ laidMetH Tryd.prog laidList w) ∧ sizedMet enc Tryd.prog Tryd.f4 (OpenSpec.ofChange Rows.voteAllSpec) false w args)
      (Rows.voteAllSpec.post enc Tryd.prog Tryd.f4 false true false false) := by
  refine returnsInHanded_of_change_and (C := Tryd.checked) (X := fun w _ => laidMetH Tryd.prog laidList w) (fun _ _ _ hh h => h.of_heap hh) own started (by kernel_rfl) Tryd.func4
    (ChangeSpec.witness_at (enc := enc) (C := Tryd.checked) (os := os) (X := fun w _ => laidMetH Tryd.prog laidList w) false (laidWorld os) #[.agg #[.int .i64 0, .int .i64 0], .int .i64 0] 8 rfl (by kernel_rfl) (by kernel_rfl) (by kernel_rfl) (by kernel_rfl) (by kernel_rfl) (laidWorld_met os _)) ?_
  intro W base args ds gs before hval0 hW hcnd hreach hL _
  have hval : ∀ (j : Nat) t v, Tryd.f4.params[j]? = some t → args[j]? = some v → Value.okWide Tryd.prog W .any base t v := hval0
  have hW' := hW
  obtain ⟨p, q, hA0, hV, rfl, hfz, hnd⟩ := hW
  have hA : DataW.TrodAll enc Tryd.prog W 0 (fun _ => true) true Tryd.f4.params.toList args.toList ds p := hA0
  rw [Tryd.params4] at hA hval
  obtain ⟨v0, vs0, d0, ds0, p0, q0, hargs, rfl, rfl, g0, r0⟩ := trodAll_cons hA
  obtain ⟨v1, vs1, d1, ds1, p1, q1, rfl, rfl, rfl, g1, r1⟩ := trodAll_cons r0
  obtain ⟨rfl, rfl, rfl⟩ := trodAll_nil r1
  obtain rfl : args = #[v0, v1] := by cases args; simp_all
  have hV2 : DataW.TrodVars enc Tryd.prog W (fun _ => true) [] gs q := hV
  obtain ⟨rfl, rfl⟩ : gs = [] ∧ q = [] := by
    cases gs with
    | nil => exact ⟨rfl, hV2⟩
    | cons g r => exact absurd hV2 (by intro h; cases h)
  have k0 := g0
  have lt0 : ∀ x ∈ p0, x.block < W.heap.size := by obtain ⟨m, hm⟩ := k0; exact DataW.trod_lt m _ _ _ hm
  have rd0 : Tryd.prog.readableRec 25 = true := by kernel_rfl
  have ls0 : 25 < Tryd.prog.types.size := of_decide_eq_true (by kernel_rfl)
  obtain ⟨a0, rfl, h0⟩ := open_RSpan (hval 0 25 v0 rfl rfl) g0
  obtain ⟨a1, rfl, rfl, rfl, u1⟩ := open_int Tryd.underlying3 (hval 1 3 v1 rfl rfl) g1
  have h1 := bounds_i64 u1
  clear hA0 hval0
  refine (walk a0 a1 W h0 h1 (handle_of_laid hL)).mono fun e W' ⟨he, bel⟩ => ?_
  subst he
  exact ⟨_, rfl, _, _, _, [], _, [], hW', trodAll_mk1 (shut_bool Tryd.underlying4 _), (trodAll_cons_mk (Below.trod laidOut rd0 ls0 k0 bel lt0) (trodAll_cons_mk (shut_int Tryd.underlying3 u1) trodAll_mk0)), rfl, bel.frame _, fun h => by cases h⟩

theorem over : Rows.voteAllRow.holds Tryd.pinned (OpenSpec.ofChange Rows.voteAllSpec) :=
  OpenClaim.holds_of_wide 4 Tryd.f4 rfl rfl rfl rfl rfl rfl rfl ⟨rfl, rfl, rfl, rfl, rfl⟩ rfl rfl rfl rfl rfl (by kernel_rfl) Tryd.func4 (by kernel_rfl)
    (of_decide_eq_true (by kernel_rfl)) (by unfold Func.isWrapper; rw [if_neg (of_decide_eq_false (by kernel_rfl))]; exact ⟨rfl, rfl⟩)
    (fun os started H enc _ => lifted os started H enc)

theorem card : Rows.VoteAllCardSaid :=
  Claim7.holds_tied_plain_at .later [] [.handle] true (true, Rows.voteAllCard.stood.harness.2) true
    over (fun _ h => by cases h) (by kernel_rfl) (fun _ h => by cases h) voteAll_row_tie rfl ⟨rfl, rfl⟩ (by kernel_rfl) rfl
    (fun f fn hf hfn => by
      obtain rfl : f = 4 := Option.some.inj ((show Tryd.prog.funcNamed "noonmark/noonlaw4.VoteAll" = some 4 by kernel_rfl).symm.trans hf) |>.symm
      obtain rfl : fn = Tryd.f4 := (Option.some.inj (Tryd.func4.symm.trans hfn)).symm
      exact ⟨by kernel_rfl, fun j t ht => by
        rw [Tryd.params4] at ht
        exact noStandIn (ps := #[25, 3]) (by kernel_rfl) ht⟩)
    (by kernel_rfl)

end Go.Proofs.YtfocabghbapncaaDoor.lVoteAll
