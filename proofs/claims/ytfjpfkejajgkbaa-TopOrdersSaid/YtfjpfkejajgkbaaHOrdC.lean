/- order.Check, order.ahead, order.Surely, noonref2.Events, walked. -/
import Derived.Test.YtfjpfkejajgkbaaHOrderP
import Derived.Test.YtfjpfkejajgkbaaHRef1
import Derived.Test.YtfjpfkejajgkbaaHG1
import Derived.Deep.Light
namespace Go.Proofs.Ytfjpfkejajgkbaa
open Go.RowKit
set_option linter.unusedVariables false
set_option linter.unusedSimpArgs false
set_option maxRecDepth 100000 in
set_option maxHeartbeats 2000000 in
theorem order_check_1 (id lo hi d : Int) (g : Nat) (w : World) (hd : w.cell? ⟨g, 0, none⟩ = some (.int .i64 d)) (hP : g < w.heap.size) :
    Calls Try.prog 58 #[.agg #[.int .i64 id, .int .i64 lo, .int .i64 hi], .pointer (some ⟨g, 0, none⟩)] w fun e w' => e = .returned (.bool (id == d)) ∧ Below w.heap.size w w' := by
  go_enter Try.func58, Try.ntmps58
  go_wp2_with fail
  go_ret
  exact ⟨rfl, (by repeat (first | with_reducible exact Below.refl _ _ | (with_reducible refine Below.alloc ?_ (by first | omega | (simp; done) | (simp; omega)) _) | (with_reducible refine Below.setCell ?_ (by first | omega | (simp; done) | (simp; omega)) _) | (with_reducible refine Below.drew ?_) | (with_reducible refine below_drewN ?_ _) | (with_reducible assumption) | (with_reducible refine bel_step (by with_reducible assumption) ?_ (by first | omega | (simp; done) | (simp; omega)))))⟩
theorem hasId_no {zs : List REvent} {d : Int} (h : ∀ x ∈ zs, (x.id == d) = false) : hasId zs d = false := List.any_eq_false.2 fun x hx => by rw [h x hx]; simp
theorem hasId_yes {zs : List REvent} {d : Int} {k : Nat} {z : REvent} (h : zs[k]? = some z) (hz : (z.id == d) = true) : hasId zs d = true := List.any_eq_true.2 ⟨z, List.mem_of_getElem? h, hz⟩
theorem take_moreE {p : REvent → Prop} {zs : List REvent} {k : Nat} {z : REvent} (h : zs[k]? = some z) (h1 : ∀ x ∈ zs.take k, p x) (h2 : p z) : ∀ x ∈ zs.take (k + 1), p x := by
  intro x hx
  rw [List.take_add_one, h] at hx
  rcases List.mem_append.1 hx with hx | hx
  · exact h1 x hx
  · simp at hx; subst hx; exact h2
set_option maxRecDepth 100000 in
set_option maxHeartbeats 4000000 in
theorem idx_order (A : Option Addr) (n c : Nat) (zs : List REvent) (d : Int) (g : Nat) (w : World) (h : IsRecs w REvent.cells REvent.ok 3 A n c zs) (hd : w.cell? ⟨g, 0, none⟩ = some (.int .i64 d)) (hP : g < w.heap.size) :
    Calls Try.prog 66 #[.slice A n c, .func (.func 58) #[] #[.pointer (some ⟨g, 0, none⟩)]] w fun e w' => ∃ r : Int, e = .returned (.int .i64 r) ∧ decide (0 ≤ r) = hasId zs d ∧ Below w.heap.size w w' := by
  obtain ⟨l1, l2, l3, l4, l5⟩ := h
  unfold maxLen at l3
  have L1 := Lib.hid l1
  have L5 := Lib.hid l5
  have HD0 := Lib.hid hd
  clear l1 l4 l5 hd
  go_enter Try.func66, Try.ntmps66
  go_wp2_with fail
  go_loopw [8] (fun kv wr => ∃ k : Nat, kv = .int .i64 k ∧ k ≤ n ∧ (∀ x ∈ zs.take k, (x.id == d) = false) ∧ Below w.heap.size w wr) (fun kv _ => n - (intOf kv).toNat)
  case atStart => exact ⟨0, rfl, by omega, fun x hx => by simp at hx, Below.refl _ _⟩
  case round =>
    obtain ⟨k, rfl, hk, hD, hB⟩ := hrel
    have HD := Lib.hid hD
    have HB := Lib.hid hB
    have hzw := hB.size
    clear hD
    by_cases d1 : k < n
    · obtain ⟨b, off, rfl, hb, hc⟩ := L5.out (by omega)
      obtain ⟨z, hz⟩ : ∃ z, zs[k]? = some z := ⟨_, List.getElem?_eq_getElem (by rw [L1.out]; omega)⟩
      have x0 : wr.cell? ⟨b, off + k * 3, none⟩ = some (.int .i64 z.id) := (hB.cell (p := ⟨b, off + k * 3, none⟩) hb).trans (hc k z hz 0 _ rfl)
      have x1 : wr.cell? ⟨b, off + k * 3 + 1, none⟩ = some (.int .i64 z.lo) := (hB.cell (p := ⟨b, off + k * 3 + 1, none⟩) hb).trans (hc k z hz 1 _ rfl)
      have x2 : wr.cell? ⟨b, off + k * 3 + 1 + 1, none⟩ = some (.int .i64 z.hi) := (hB.cell (p := ⟨b, off + k * 3 + 1 + 1, none⟩) hb).trans (hc k z hz 2 _ rfl)
      have x2' : wr.cell? ⟨b, off + k * 3 + 2, none⟩ = some (.int .i64 z.hi) := x2
      have HZ := Lib.hid hz
      have C := order_check_1 z.id z.lo z.hi d g wr ((hB.cell (p := ⟨g, 0, none⟩) hP).trans HD0.out) (by omega)
      clear hc hz hB
      cases e1 : (z.id == d)
      · rw [e1] at C
        have HC := Lib.hid C
        have HD2 := Lib.hid (take_moreE (p := fun x => (x.id == d) = false) HZ.out HD.out e1)
        clear C e1
        go_wp2_with fail
        refine HC.out.mono ?_
        rintro e w' ⟨rfl, hb'⟩
        have HB2 := Lib.hid (HB.out.trans (hb'.mono HB.out.size))
        clear hb'
        go_wp2_with fail
        go_roundw
        case rel => exact ⟨k + 1, by go_num, by omega, HD2.out, HB2.out⟩
        case measure => simp [intOf]; omega
      · rw [e1] at C
        have HC := Lib.hid C
        have HN := Lib.hid (hasId_yes HZ.out e1)
        clear C e1
        go_wp2_with fail
        refine HC.out.mono ?_
        rintro e w' ⟨rfl, hb'⟩
        have HB2 := Lib.hid (HB.out.trans (hb'.mono HB.out.size))
        clear hb'
        go_wp2_with fail
        go_ret
        exact ⟨k, rfl, by rw [HN.out]; simp, HB2.out⟩
    · have HN := Lib.hid (hasId_no (zs := zs) (d := d) (by
        have := HD.out
        rwa [List.take_of_length_le (by rw [L1.out]; omega)] at this))
      clear hB
      go_wp2_with fail
      go_ret
      exact ⟨-1, rfl, by rw [HN.out]; rfl, HB.out⟩
theorem has_order (A : Option Addr) (n c : Nat) (zs : List REvent) (d : Int) (g : Nat) (w : World) (h : IsRecs w REvent.cells REvent.ok 3 A n c zs) (hd : w.cell? ⟨g, 0, none⟩ = some (.int .i64 d)) (hP : g < w.heap.size) :
    Calls Try.prog 57 #[.slice A n c, .func (.func 58) #[] #[.pointer (some ⟨g, 0, none⟩)]] w fun e w' => e = .returned (.bool (hasId zs d)) ∧ Below w.heap.size w w' := by
  have C := Lib.hid (idx_order A n c zs d g w h hd hP)
  clear h hd
  go_enter Try.func57, Try.ntmps57
  go_wp2_with fail
  refine C.out.mono ?_
  rintro e w' ⟨r, rfl, hr, hb⟩
  have HR := Lib.hid hr
  clear hr
  go_wp2_with fail
  go_ret
  exact ⟨ret_bool HR.out, hb⟩
theorem recs_take {E : Type} {w : World} {cells : E → List Value} {ok : E → Prop} {k : Nat} {A : Option Addr} {n c m : Nat} {zs : List E} (h : IsRecs w cells ok k A n c zs) (hm : m ≤ n) : IsRecs w cells ok k A m c (zs.take m) := by
  obtain ⟨h1, h2, h3, h4, h5⟩ := h
  refine ⟨by rw [List.length_take]; omega, by omega, h3, fun z hz => h4 z (List.mem_of_mem_take hz), fun hp => ?_⟩
  obtain ⟨b, off, e, hb, hc⟩ := h5 (by omega)
  refine ⟨b, off, e, hb, fun i z hz => hc i z ?_⟩
  by_cases hi : i < m
  · rw [List.getElem?_take_of_lt hi] at hz; exact hz
  · rw [List.getElem?_eq_none (by rw [List.length_take]; omega)] at hz; cases hz
set_option maxRecDepth 100000 in
set_option maxHeartbeats 8000000 in
theorem order_Check (A : Option Addr) (n c : Nat) (zs : List REvent) (w : World) (h : IsRecs w REvent.cells REvent.ok 3 A n c zs) :
    Calls Try.prog 50 #[.slice A n c] w fun e w' => e = .returned (errV (evC zs)) ∧ Below w.heap.size w w' := by
  have H := Lib.hid h
  obtain ⟨l1, l2, l3, l4, l5⟩ := h
  unfold maxLen at l3
  have L1 := Lib.hid l1
  have L5 := Lib.hid l5
  clear l1 l4 l5
  by_cases d12 : 12 < n
  · have hv := Lib.hid (show evC zs = 4 by unfold evC; rw [L1.out, if_pos d12])
    have k0 : (12 : Int) < (n : Int) := by omega
    go_enter Try.func50, Try.ntmps50
    go_wp2_with fail
    go_ret
    exact ⟨by rw [hv.out]; simp [errV], Below.refl _ _⟩
  · have k0 : ¬ (12 : Int) < (n : Int) := by omega
    go_enter Try.func50, Try.ntmps50
    go_wp2_with fail
    go_loopw [11] (fun kv wr => ∃ k : Nat, kv = .int .i64 k ∧ k ≤ n ∧ evFirst zs k = 0 ∧ Below w.heap.size w wr) (fun kv _ => n - (intOf kv).toNat)
    case atStart => exact ⟨0, rfl, by omega, rfl, Below.refl _ _⟩
    case round =>
      obtain ⟨k, rfl, hk, hF, hB⟩ := hrel
      have HF := Lib.hid hF
      have HB := Lib.hid hB
      have hzw := hB.size
      clear hF
      by_cases d1 : k < n
      · obtain ⟨b, off, rfl, hb, hc⟩ := L5.out (by omega)
        obtain ⟨z, hz⟩ : ∃ z, zs[k]? = some z := ⟨_, List.getElem?_eq_getElem (by rw [L1.out]; omega)⟩
        have x0 : wr.cell? ⟨b, off + k * 3, none⟩ = some (.int .i64 z.id) := (hB.cell (p := ⟨b, off + k * 3, none⟩) hb).trans (hc k z hz 0 _ rfl)
        have x1 : wr.cell? ⟨b, off + k * 3 + 1, none⟩ = some (.int .i64 z.lo) := (hB.cell (p := ⟨b, off + k * 3 + 1, none⟩) hb).trans (hc k z hz 1 _ rfl)
        have x2 : wr.cell? ⟨b, off + k * 3 + 1 + 1, none⟩ = some (.int .i64 z.hi) := (hB.cell (p := ⟨b, off + k * 3 + 1 + 1, none⟩) hb).trans (hc k z hz 2 _ rfl)
        have x2' : wr.cell? ⟨b, off + k * 3 + 2, none⟩ = some (.int .i64 z.hi) := x2
        have HZ := Lib.hid hz
        have HBad := Lib.hid (show evBad zs k = if rightB z.lo z.hi = true then (if hasId (zs.take k) z.id = true then 3 else 0) else 1 from by unfold evBad; rw [getD_of hz]; rfl)
        have CR := Lib.hid (fun W' => Right_any z.lo z.hi W')
        clear hc hz hB
        cases e1 : rightB z.lo z.hi
        · rw [e1] at CR HBad
          have HE := Lib.hid (evC_at L1.out d12 HF.out HBad.out (by simp) d1)
          as_aux_lemma =>
            go_wp2_with fail
            refine (CR.out _).mono ?_
            rintro e w' ⟨rfl, hb'⟩
            have HB2 := Lib.hid (show Below w.heap.size w w' from by have hB := HB.out; exact (by repeat (first | with_reducible exact Below.refl _ _ | (with_reducible refine Below.alloc ?_ (by first | omega | (simp; done) | (simp; omega)) _) | (with_reducible refine Below.setCell ?_ (by first | omega | (simp; done) | (simp; omega)) _) | (with_reducible refine Below.drew ?_) | (with_reducible refine below_drewN ?_ _) | (with_reducible assumption) | (with_reducible refine bel_step (by with_reducible assumption) ?_ (by first | omega | (simp; done) | (simp; omega))))))
            clear hb'
            go_wp2_with fail
            go_ret
            exact ⟨by rw [HE.out]; simp [errV], HB2.out⟩
        · rw [e1] at CR HBad
          have CH := Lib.hid (fun w' (hb : Below w.heap.size w w') hd hP => has_order (some ⟨b, off, none⟩) k c (zs.take k) z.id wr.heap.size w' (recs_take (H.out.below hb) (by omega)) hd hP)
          cases e2 : hasId (zs.take k) z.id
          · rw [e2] at CH HBad
            have HN := Lib.hid (ev_next HF.out (by rw [HBad.out]; rfl))
            clear e1 e2 HBad HF
            as_aux_lemma =>
              go_wp2_with fail
              refine (CR.out _).mono ?_
              rintro e w2 ⟨rfl, hb2⟩
              have bE : Blk w2 wr.heap.size 57 #[.int .i64 z.id, .int .i64 z.lo, .int .i64 z.hi] := (by refine BlkG.start ?_; (repeat (first | ((with_reducible apply BlkG.done); (with_reducible assumption); exact rfl) | (with_reducible exact BlkG.newAt (by first | (with_reducible rfl) | omega | (simp; done) | (simp; omega)) rfl) | (with_reducible refine BlkG.drew ?_) | (with_reducible refine BlkG.drewN ?_) | (with_reducible refine BlkG.set ?_) | (with_reducible refine BlkG.far (by first | omega | (simp; done) | (simp; omega)) ?_) | (with_reducible refine BlkG.alloc ?_) | (with_reducible refine BlkG.bel (by with_reducible assumption) (by first | omega | (simp; done) | (simp; omega)) ?_))))
              have y0 : w2.cell? ⟨wr.heap.size, 0, none⟩ = some (.int .i64 z.id) := bE.cell 0
              have ly := bE.lt
              have HB2 := Lib.hid (show Below w.heap.size w w2 from by have hB := HB.out; exact (by repeat (first | with_reducible exact Below.refl _ _ | (with_reducible refine Below.alloc ?_ (by first | omega | (simp; done) | (simp; omega)) _) | (with_reducible refine Below.setCell ?_ (by first | omega | (simp; done) | (simp; omega)) _) | (with_reducible refine Below.drew ?_) | (with_reducible refine below_drewN ?_ _) | (with_reducible assumption) | (with_reducible refine bel_step (by with_reducible assumption) ?_ (by first | omega | (simp; done) | (simp; omega))))))
              have kk : (k : Int) ≤ (c : Int) := by omega
              clear hb2 x0 x1 x2 x2'
              go_wp2_with fail
              refine (CH.out _ HB2.out y0 ly).mono ?_
              rintro e w3 ⟨rfl, hb3⟩
              have HB3 := Lib.hid (HB2.out.trans (hb3.mono HB2.out.size))
              clear hb3
              go_wp2_with fail
              go_roundw
              case rel => exact ⟨k + 1, by go_num, by omega, HN.out, HB3.out⟩
              case measure => simp [intOf]; omega
          · rw [e2] at CH HBad
            have HE := Lib.hid (evC_at L1.out d12 HF.out HBad.out (by simp) d1)
            clear e1 e2 HBad HF
            as_aux_lemma =>
              go_wp2_with fail
              refine (CR.out _).mono ?_
              rintro e w2 ⟨rfl, hb2⟩
              have bE : Blk w2 wr.heap.size 57 #[.int .i64 z.id, .int .i64 z.lo, .int .i64 z.hi] := (by refine BlkG.start ?_; (repeat (first | ((with_reducible apply BlkG.done); (with_reducible assumption); exact rfl) | (with_reducible exact BlkG.newAt (by first | (with_reducible rfl) | omega | (simp; done) | (simp; omega)) rfl) | (with_reducible refine BlkG.drew ?_) | (with_reducible refine BlkG.drewN ?_) | (with_reducible refine BlkG.set ?_) | (with_reducible refine BlkG.far (by first | omega | (simp; done) | (simp; omega)) ?_) | (with_reducible refine BlkG.alloc ?_) | (with_reducible refine BlkG.bel (by with_reducible assumption) (by first | omega | (simp; done) | (simp; omega)) ?_))))
              have y0 : w2.cell? ⟨wr.heap.size, 0, none⟩ = some (.int .i64 z.id) := bE.cell 0
              have ly := bE.lt
              have HB2 := Lib.hid (show Below w.heap.size w w2 from by have hB := HB.out; exact (by repeat (first | with_reducible exact Below.refl _ _ | (with_reducible refine Below.alloc ?_ (by first | omega | (simp; done) | (simp; omega)) _) | (with_reducible refine Below.setCell ?_ (by first | omega | (simp; done) | (simp; omega)) _) | (with_reducible refine Below.drew ?_) | (with_reducible refine below_drewN ?_ _) | (with_reducible assumption) | (with_reducible refine bel_step (by with_reducible assumption) ?_ (by first | omega | (simp; done) | (simp; omega))))))
              have kk : (k : Int) ≤ (c : Int) := by omega
              clear hb2 x0 x1 x2 x2'
              go_wp2_with fail
              refine (CH.out _ HB2.out y0 ly).mono ?_
              rintro e w3 ⟨rfl, hb3⟩
              have HB3 := Lib.hid (HB2.out.trans (hb3.mono HB2.out.size))
              clear hb3
              go_wp2_with fail
              go_ret
              exact ⟨by rw [HE.out]; simp [errV], HB3.out⟩
      · obtain rfl : k = n := by omega
        have HE := Lib.hid (evC_ok L1.out d12 HF.out)
        go_wp2_with fail
        go_ret
        exact ⟨by rw [HE.out]; rfl, HB.out⟩
end Go.Proofs.Ytfjpfkejajgkbaa
