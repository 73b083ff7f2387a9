/- bounds.Fits, walked. -/
import Derived.Test.YtmficdfihogffaaDoorHEdge
import Derived.Test.YtmficdfihogffaaDoorHG1
namespace Go.Proofs.YtmficdfihogffaaDoor
open Go.RowKit
set_option linter.unusedVariables false
set_option linter.unusedSimpArgs false
def fitB (cl : List Int) (e : REdge) : Bool := decide (e.lo ≤ cl.getD e.b.toNat 0 - cl.getD e.a.toNat 0) && decide (cl.getD e.b.toNat 0 - cl.getD e.a.toNat 0 ≤ e.hi)
def fitsC (n : Int) (l : List REdge) (cl : List Int) : Int := if edgesC n l = 0 then (if (cl.length : Int) = n then okC (cl.all timeB) else 3) else edgesC n l
def fitsV (n : Int) (l : List REdge) (cl : List Int) : Bool := decide (fitsC n l cl = 0) && l.all (fitB cl)
def IdxQ (b : Bool) (w : World) (e : Ending) (w' : World) : Prop := ∃ r : Int, e = .returned (.int .i64 r) ∧ decide (0 ≤ r) = b ∧ Below w.heap.size w w'
theorem any_at {α : Type} {l : List α} {p : α → Bool} {k : Nat} {z : α} (h : l[k]? = some z) (hp : p z = true) : l.any p = true := List.any_eq_true.2 ⟨z, List.mem_of_getElem? h, hp⟩
theorem any_no {α : Type} {l : List α} {p : α → Bool} {n : Nat} (hl : l.length = n) (h : ∀ i z, i < n → l[i]? = some z → p z = false) : l.any p = false := by
  rw [List.any_eq_false]
  intro z hz
  obtain ⟨i, hi, e⟩ := List.getElem_of_mem hz
  rw [h i z (by omega) (by rw [List.getElem?_eq_getElem hi, e])]
  simp
theorem fits_1 (t : Int) (w : World) : Calls Tryd.prog 40 #[.int .i64 t] w fun e w' => e = .returned (.bool (!timeB t)) ∧ w = w' := by
  go_enter Tryd.func40, Tryd.ntmps40
  go_wp2_with (go_at_call 41; refine (Time_any _ _).mono ?_; rintro e w' ⟨rfl, rfl⟩)
  go_ret
  exact ⟨rfl, rfl⟩
theorem idx_fits1 (A : Option Addr) (n c : Nat) (cl : List Int) (w : World) (hc : IsInts w A n c cl) :
    Calls Tryd.prog 65 #[.slice A n c, .func (.func 40) #[] #[]] w (IdxQ (cl.any fun t => !timeB t) w) := by
  obtain ⟨l1, l2, l3, l4, l5⟩ := hc
  unfold maxLen at l3
  have L1 := Lib.hid l1
  have L5 := Lib.hid l5
  clear l4 l5 l1
  go_enter Tryd.func65, Tryd.ntmps65
  go_wp2_with fail
  go_loopw [8] (fun kv wr => ∃ k : Nat, kv = .int .i64 k ∧ k ≤ n ∧ (∀ i z, i < k → cl[i]? = some z → timeB z = true) ∧ w = wr) (fun kv _ => n - (intOf kv).toNat)
  case atStart => exact ⟨0, rfl, by omega, fun a z ha => absurd ha (by omega), rfl⟩
  case round =>
    obtain ⟨k, rfl, hk, hD, rfl⟩ := hrel
    have HD := Lib.hid hD
    clear hD
    by_cases d1 : k < n
    · obtain ⟨b, off, rfl, hb, hc⟩ := L5.out (by omega)
      obtain ⟨z, hz⟩ : ∃ z, cl[k]? = some z := ⟨_, List.getElem?_eq_getElem (by rw [L1.out]; omega)⟩
      have x0 : w.cell? ⟨b, off + k, none⟩ = some (.int .i64 z) := by have := hc k z hz 0 _ rfl; simpa using this
      have HZ := Lib.hid hz
      clear hc hz
      cases e : timeB z
      · have HN := Lib.hid (any_at (p := fun t => !timeB t) HZ.out (by rw [e]; rfl))
        go_wp2_with fail
        refine (fits_1 _ _).mono ?_
        rintro e w' ⟨rfl, rfl⟩
        go_wp2_with fail
        go_ret
        exact ⟨k, rfl, by rw [HN.out]; simp, Below.refl _ _⟩
      · have HE := Lib.hid e
        go_wp2_with fail
        refine (fits_1 _ _).mono ?_
        rintro e w' ⟨rfl, rfl⟩
        go_wp2_with fail
        go_roundw
        case rel => exact ⟨k + 1, by go_num, by omega, fun i y hi hy => by
          by_cases h : i = k
          · subst h; rw [HZ.out] at hy; cases hy; exact HE.out
          · exact HD.out i y (by omega) hy, trivial⟩
        case measure => simp [intOf]; omega
    · have HN := Lib.hid (any_no (p := fun t => !timeB t) L1.out (fun i z hi hz => by rw [HD.out i z (by omega) hz]; rfl))
      go_wp2_with fail
      go_ret
      exact ⟨-1, rfl, by rw [HN.out]; rfl, Below.refl _ _⟩
theorem has_fits1 (A : Option Addr) (n c : Nat) (cl : List Int) (w : World) (hc : IsInts w A n c cl) :
    Calls Tryd.prog 39 #[.slice A n c, .func (.func 40) #[] #[]] w fun e w' => e = .returned (.bool (cl.any fun t => !timeB t)) ∧ Below w.heap.size w w' := by
  have C := Lib.hid (idx_fits1 A n c cl w hc)
  clear hc
  go_enter Tryd.func39, Tryd.ntmps39
  go_wp2_with fail
  refine C.out.mono ?_
  rintro e w' ⟨r, rfl, hr, hb⟩
  have HR := Lib.hid hr
  clear hr
  go_wp2_with fail
  go_ret
  exact ⟨ret_bool HR.out, hb⟩
set_option maxHeartbeats 1000000 in
theorem fits_2 (N : Nat) (a b lo hi : Int) (g : Nat) (A : Option Addr) (n c : Nat) (cl : List Int) (w : World) (hc : IsInts w A n c cl) (hn : n = N) (he : edgeB N ⟨a, b, lo, hi⟩) (ht : ∀ z ∈ cl, timeB z = true) (hg : w.cell? ⟨g, 0, none⟩ = some (.slice A n c)) :
    Calls Tryd.prog 43 #[.agg #[.int .i64 a, .int .i64 b, .int .i64 lo, .int .i64 hi], .pointer (some ⟨g, 0, none⟩)] w fun e w' => e = .returned (.bool (!fitB cl ⟨a, b, lo, hi⟩)) ∧ Below w.heap.size w w' := by
  subst hn
  obtain ⟨l1, l2, l3, l4, l5⟩ := hc
  unfold maxLen at l3
  unfold edgeB at he
  obtain ⟨e1, e2, e3, e4, e5, e6, e7, e8⟩ := he
  simp only [] at e1 e2 e3 e4 e5 e6 e7 e8
  obtain ⟨a', rfl⟩ := Int.eq_ofNat_of_zero_le e1
  obtain ⟨b', rfl⟩ := Int.eq_ofNat_of_zero_le e3
  obtain ⟨q, off, rfl, hq, hcc⟩ := l5 (by omega)
  obtain ⟨x, hx⟩ : ∃ z, cl[a']? = some z := ⟨_, List.getElem?_eq_getElem (by omega)⟩
  obtain ⟨y, hy⟩ : ∃ z, cl[b']? = some z := ⟨_, List.getElem?_eq_getElem (by omega)⟩
  have x0 : w.cell? ⟨q, off + a', none⟩ = some (.int .i64 x) := by have := hcc a' x hx 0 _ rfl; simpa using this
  have y0 : w.cell? ⟨q, off + b', none⟩ = some (.int .i64 y) := by have := hcc b' y hy 0 _ rfl; simpa using this
  have tx := timeB_iff.1 (ht x (List.mem_of_getElem? hx))
  have ty := timeB_iff.1 (ht y (List.mem_of_getElem? hy))
  have gl : g < w.heap.size := by
    rcases Nat.lt_or_ge g w.heap.size with h | h
    · exact h
    · simp [World.cell?, Array.getElem?_eq_none h] at hg
  have HF := Lib.hid (show fitB cl ⟨a', b', lo, hi⟩ = (decide (lo ≤ y - x) && decide (y - x ≤ hi)) by simp [fitB, List.getD, hx, hy])
  have Y2 := Lib.hid (IntWalk.i64_in (y - x) (by omega))
  clear hcc hx hy l4 l5 l1 ht
  by_cases c1 : y - x < lo
  · have HV := Lib.hid (show fitB cl ⟨a', b', lo, hi⟩ = false by rw [HF.out, decide_eq_false (by omega)]; rfl)
    have y2 := Y2.out
    go_enter Tryd.func43, Tryd.ntmps43
    go_wp2_with fail
    go_region
    go_wp2_with fail
    go_ret
    exact ⟨by rw [HV.out]; rfl, (by repeat (first | with_reducible exact Below.refl _ _ | (with_reducible refine Below.alloc ?_ (by first | omega | (simp; done) | (simp; omega)) _) | (with_reducible refine Below.setCell ?_ (by first | omega | (simp; done) | (simp; omega)) _) | (with_reducible refine Below.drew ?_) | (with_reducible refine below_drewN ?_ _) | (with_reducible assumption) | (with_reducible refine bel_step (by with_reducible assumption) ?_ (by first | omega | (simp; done) | (simp; omega)))))⟩
  · by_cases c2 : hi < y - x
    · have HV := Lib.hid (show fitB cl ⟨a', b', lo, hi⟩ = false by rw [HF.out, decide_eq_false (p := y - x ≤ hi) (by omega), Bool.and_false])
      have y2 := Y2.out
      go_enter Tryd.func43, Tryd.ntmps43
      go_wp2_with fail
      go_region
      go_wp2_with fail
      go_ret
      exact ⟨by rw [HV.out]; rfl, (by repeat (first | with_reducible exact Below.refl _ _ | (with_reducible refine Below.alloc ?_ (by first | omega | (simp; done) | (simp; omega)) _) | (with_reducible refine Below.setCell ?_ (by first | omega | (simp; done) | (simp; omega)) _) | (with_reducible refine Below.drew ?_) | (with_reducible refine below_drewN ?_ _) | (with_reducible assumption) | (with_reducible refine bel_step (by with_reducible assumption) ?_ (by first | omega | (simp; done) | (simp; omega)))))⟩
    · have HV := Lib.hid (show fitB cl ⟨a', b', lo, hi⟩ = true by rw [HF.out, decide_eq_true (p := lo ≤ y - x) (by omega), decide_eq_true (p := y - x ≤ hi) (by omega)]; rfl)
      have y2 := Y2.out
      go_enter Tryd.func43, Tryd.ntmps43
      go_wp2_with fail
      go_region
      go_wp2_with fail
      go_ret
      exact ⟨ret_bool (a := decide (y - x < lo) || decide (hi < y - x)) (by rw [HV.out]; simp; omega), (by repeat (first | with_reducible exact Below.refl _ _ | (with_reducible refine Below.alloc ?_ (by first | omega | (simp; done) | (simp; omega)) _) | (with_reducible refine Below.setCell ?_ (by first | omega | (simp; done) | (simp; omega)) _) | (with_reducible refine Below.drew ?_) | (with_reducible refine below_drewN ?_ _) | (with_reducible assumption) | (with_reducible refine bel_step (by with_reducible assumption) ?_ (by first | omega | (simp; done) | (simp; omega)))))⟩
set_option maxHeartbeats 1000000 in
theorem idx_fits2 (N : Nat) (A : Option Addr) (n c : Nat) (zs : List REdge) (g : Nat) (B : Option Addr) (m d : Nat) (cl : List Int) (w : World) (hz : IsRecs w REdge.cells REdge.ok 4 A n c zs) (hl : EdgesOk N zs) (hc : IsInts w B m d cl) (hn : m = N) (ht : ∀ z ∈ cl, timeB z = true) (hg : w.cell? ⟨g, 0, none⟩ = some (.slice B m d)) :
    Calls Tryd.prog 66 #[.slice A n c, .func (.func 43) #[] #[.pointer (some ⟨g, 0, none⟩)]] w (IdxQ (zs.any fun e => !fitB cl e) w) := by
  obtain ⟨l1, l2, l3, l4, l5⟩ := hz
  unfold maxLen at l3
  have gl : g < w.heap.size := by
    rcases Nat.lt_or_ge g w.heap.size with h | h
    · exact h
    · simp [World.cell?, Array.getElem?_eq_none h] at hg
  have C := Lib.hid (fun (z : REdge) (hz : z ∈ zs) w' (hb : Below w.heap.size w w') => fits_2 N z.a z.b z.lo z.hi g B m d cl w' (hc.below hb) hn (hl z hz) ht ((hb.cell (p := ⟨g, 0, none⟩) gl).trans hg))
  have L1 := Lib.hid l1
  have L5 := Lib.hid l5
  clear l4 l5 l1 hl hc ht hg hn
  go_enter Tryd.func66, Tryd.ntmps66
  go_wp2_with fail
  go_loopw [8] (fun kv wr => ∃ k : Nat, kv = .int .i64 k ∧ k ≤ n ∧ (∀ i z, i < k → zs[i]? = some z → fitB cl z = true) ∧ Below w.heap.size w wr) (fun kv _ => n - (intOf kv).toNat)
  case atStart => exact ⟨0, rfl, by omega, fun a z ha => absurd ha (by omega), Below.refl _ _⟩
  case round =>
    obtain ⟨k, rfl, hk, hD, hB⟩ := hrel
    have HD := Lib.hid hD
    have HB := Lib.hid hB
    have hzw := hB.size
    clear hD hB
    by_cases d1 : k < n
    · obtain ⟨b, off, rfl, hb, hc⟩ := L5.out (by omega)
      obtain ⟨z, hz⟩ : ∃ z, zs[k]? = some z := ⟨_, List.getElem?_eq_getElem (by rw [L1.out]; omega)⟩
      have x0 := (HB.out.cell (p := ⟨b, off + k * 4, none⟩) hb).trans (hc k z hz 0 _ rfl)
      have x1 := (HB.out.cell (p := ⟨b, off + k * 4 + 1, none⟩) hb).trans (hc k z hz 1 _ rfl)
      have x2 := (HB.out.cell (p := ⟨b, off + k * 4 + 2, none⟩) hb).trans (hc k z hz 2 _ rfl)
      have x3 := (HB.out.cell (p := ⟨b, off + k * 4 + 3, none⟩) hb).trans (hc k z hz 3 _ rfl)
      have n2' : b < wr.heap.size := by omega
      have HZ := Lib.hid hz
      have CZ := Lib.hid (C.out z (List.mem_of_getElem? hz) wr HB.out)
      clear hc hz
      cases e : fitB cl z
      · have HN := Lib.hid (any_at (p := fun t => !fitB cl t) HZ.out (by rw [e]; rfl))
        have CZ2 := Lib.hid (CZ.out)
        rw [e] at CZ2
        clear CZ
        go_wp2_with fail
        refine CZ2.out.mono ?_
        rintro e w' ⟨rfl, hb'⟩
        have HB' := Lib.hid (HB.out.trans (hb'.mono hzw))
        clear hb'
        go_wp2_with fail
        go_ret
        exact ⟨k, rfl, by rw [HN.out]; simp, HB'.out⟩
      · have HE := Lib.hid e
        have CZ2 := Lib.hid (CZ.out)
        rw [e] at CZ2
        clear CZ
        go_wp2_with fail
        refine CZ2.out.mono ?_
        rintro e w' ⟨rfl, hb'⟩
        have HB' := Lib.hid (HB.out.trans (hb'.mono hzw))
        clear hb'
        go_wp2_with fail
        go_roundw
        case rel => exact ⟨k + 1, by go_num, by omega, (fun i y hi hy => by
          by_cases h : i = k
          · subst h; rw [HZ.out] at hy; cases hy; exact HE.out
          · exact HD.out i y (by omega) hy), HB'.out⟩
        case measure => simp [intOf]; omega
    · have HN := Lib.hid (any_no (p := fun t => !fitB cl t) L1.out (fun i z hi hz => by rw [HD.out i z (by omega) hz]; rfl))
      go_wp2_with fail
      go_ret
      exact ⟨-1, rfl, by rw [HN.out]; rfl, HB.out⟩
theorem has_fits2 (N : Nat) (A : Option Addr) (n c : Nat) (zs : List REdge) (g : Nat) (B : Option Addr) (m d : Nat) (cl : List Int) (w : World) (hz : IsRecs w REdge.cells REdge.ok 4 A n c zs) (hl : EdgesOk N zs) (hc : IsInts w B m d cl) (hn : m = N) (ht : ∀ z ∈ cl, timeB z = true) (hg : w.cell? ⟨g, 0, none⟩ = some (.slice B m d)) :
    Calls Tryd.prog 42 #[.slice A n c, .func (.func 43) #[] #[.pointer (some ⟨g, 0, none⟩)]] w fun e w' => e = .returned (.bool (zs.any fun e => !fitB cl e)) ∧ Below w.heap.size w w' := by
  have C := Lib.hid (idx_fits2 N A n c zs g B m d cl w hz hl hc hn ht hg)
  have hm1 := hz.2.1
  have hm2 := hz.2.2.1
  unfold maxLen at hm2
  clear hz hc hg hl
  go_enter Tryd.func42, Tryd.ntmps42
  go_wp2_with fail
  refine C.out.mono ?_
  rintro e w' ⟨r, rfl, hr, hb⟩
  have HR := Lib.hid hr
  clear hr
  go_wp2_with fail
  go_ret
  exact ⟨ret_bool HR.out, hb⟩
set_option maxHeartbeats 1000000 in
theorem bounds_Fits (n : Int) (A : Option Addr) (k c : Nat) (zs : List REdge) (B : Option Addr) (m d : Nat) (cl : List Int) (w : World) (hz : IsRecs w REdge.cells REdge.ok 4 A k c zs) (hc : IsInts w B m d cl) :
    Calls Tryd.prog 20 #[.int .i64 n, .slice A k c, .slice B m d] w fun e w' => e = .returned (.tuple #[.bool (fitsV n zs cl), errV (fitsC n zs cl)]) ∧ Below w.heap.size w w' := by
  have hm1 := hz.2.1
  have hm2 := hz.2.2.1
  have hm3 := hc.2.1
  have hm4 := hc.2.2.1
  have hcl := hc.1
  unfold maxLen at hm2 hm4
  have C := Lib.hid (fun w' (hb : Below w.heap.size w w') => bounds_Check n A k c zs w' (hz.below hb))
  have C1 := Lib.hid (fun w' (hb : Below w.heap.size w w') => has_fits1 B m d cl w' (hc.below hb))
  have HZ := Lib.hid hz
  have HC := Lib.hid hc
  clear hz hc
  by_cases c0 : edgesC n zs = 0
  · rw [c0] at C
    have C0 := Lib.hid c0
    by_cases c1 : (m : Int) = n
    · obtain ⟨c4, c5, c6, c7⟩ := edgesC_0 c0
      have hf : fitsC n zs cl = okC (cl.all timeB) := by unfold fitsC; rw [if_pos c0, if_pos (by omega)]
      cases e : cl.all timeB
      · have hv : (cl.any fun t => !timeB t) = true := by
          rw [List.any_eq_not_all_not]
          simpa using e
        rw [hv] at C1
        have s1 := Lib.hid (show fitsC n zs cl = 1 by rw [hf, e]; rfl)
        have s2 := Lib.hid (show fitsV n zs cl = false by unfold fitsV; rw [s1.out]; rfl)
        have c2 : ((m : Int) != n) = false := by simpa using c1
        subst c1
        clear c0 hf e hv c6 c7
        go_enter Tryd.func20, Tryd.ntmps20
        go_wp2_with fail
        refine (C.out _ (by repeat (first | with_reducible exact Below.refl _ _ | (with_reducible refine Below.alloc ?_ (by first | omega | (simp; done) | (simp; omega)) _) | (with_reducible refine Below.setCell ?_ (by first | omega | (simp; done) | (simp; omega)) _) | (with_reducible refine Below.drew ?_) | (with_reducible refine below_drewN ?_ _) | (with_reducible assumption) | (with_reducible refine bel_step (by with_reducible assumption) ?_ (by first | omega | (simp; done) | (simp; omega)))))).mono ?_
        rintro e w1 ⟨rfl, hb1⟩
        have x0 : w1.cell? ⟨w.heap.size, 0, none⟩ = some (.slice B m d) := (hb1.cell (p := ⟨w.heap.size, 0, none⟩) (by simp)).trans (by simp)
        have HB1 := Lib.hid (show Below w.heap.size w w1 by have := hb1; exact (by repeat (first | with_reducible exact Below.refl _ _ | (with_reducible refine Below.alloc ?_ (by first | omega | (simp; done) | (simp; omega)) _) | (with_reducible refine Below.setCell ?_ (by first | omega | (simp; done) | (simp; omega)) _) | (with_reducible refine Below.drew ?_) | (with_reducible refine below_drewN ?_ _) | (with_reducible assumption) | (with_reducible refine bel_step (by with_reducible assumption) ?_ (by first | omega | (simp; done) | (simp; omega))))))
        clear hb1
        go_wp2_with fail
        refine (C1.out _ HB1.out).mono ?_
        rintro e w2 ⟨rfl, hb2⟩
        go_wp2_with fail
        go_ret2
        exact ⟨by rw [s1.out, s2.out]; rfl, HB1.out.trans (hb2.mono HB1.out.size)⟩
      · have hv : (cl.any fun t => !timeB t) = false := by
          rw [List.any_eq_false]
          intro x hx
          rw [List.all_eq_true.1 e x hx]; simp
        rw [hv] at C1
        have s1 := Lib.hid (show fitsC n zs cl = 0 by rw [hf, e]; rfl)
        have s2 := Lib.hid (show fitsV n zs cl = !(zs.any fun e => !fitB cl e) by
          unfold fitsV
          rw [s1.out, List.not_any_eq_all_not]
          simp)
        have hat : ∀ z ∈ cl, timeB z = true := fun z hz => List.all_eq_true.1 e z hz
        subst c1
        have C2 := Lib.hid (fun w' (hb : Below w.heap.size w w') g hg => has_fits2 m A k c zs g B m d cl w' (HZ.out.below hb) (by simpa using c7) (HC.out.below hb) rfl hat hg)
        clear c0 hf e hv c6 c7 hat
        go_enter Tryd.func20, Tryd.ntmps20
        go_wp2_with fail
        refine (C.out _ (by repeat (first | with_reducible exact Below.refl _ _ | (with_reducible refine Below.alloc ?_ (by first | omega | (simp; done) | (simp; omega)) _) | (with_reducible refine Below.setCell ?_ (by first | omega | (simp; done) | (simp; omega)) _) | (with_reducible refine Below.drew ?_) | (with_reducible refine below_drewN ?_ _) | (with_reducible assumption) | (with_reducible refine bel_step (by with_reducible assumption) ?_ (by first | omega | (simp; done) | (simp; omega)))))).mono ?_
        rintro e w1 ⟨rfl, hb1⟩
        have x0 : w1.cell? ⟨w.heap.size, 0, none⟩ = some (.slice B m d) := (hb1.cell (p := ⟨w.heap.size, 0, none⟩) (by simp)).trans (by simp)
        have hs1 := hb1.size
        simp at hs1
        have HB1 := Lib.hid (show Below w.heap.size w w1 by have := hb1; exact (by repeat (first | with_reducible exact Below.refl _ _ | (with_reducible refine Below.alloc ?_ (by first | omega | (simp; done) | (simp; omega)) _) | (with_reducible refine Below.setCell ?_ (by first | omega | (simp; done) | (simp; omega)) _) | (with_reducible refine Below.drew ?_) | (with_reducible refine below_drewN ?_ _) | (with_reducible assumption) | (with_reducible refine bel_step (by with_reducible assumption) ?_ (by first | omega | (simp; done) | (simp; omega))))))
        clear hb1
        go_wp2_with fail
        refine (C1.out _ HB1.out).mono ?_
        rintro e w2 ⟨rfl, hb2⟩
        have x1 := (hb2.cell (p := ⟨w.heap.size, 0, none⟩) (by show w.heap.size < _; omega)).trans x0
        have HB2 := Lib.hid (HB1.out.trans (hb2.mono HB1.out.size))
        have X1 := Lib.hid x1
        clear hb2 x0
        go_wp2_with fail
        refine (C2.out _ HB2.out _ X1.out).mono ?_
        rintro e w3 ⟨rfl, hb3⟩
        go_wp2_with fail
        go_ret2
        exact ⟨by rw [s1.out, s2.out]; rfl, HB2.out.trans (hb3.mono HB2.out.size)⟩
    · have s1 := Lib.hid (show fitsC n zs cl = 3 by unfold fitsC; rw [if_pos c0, if_neg (by omega)])
      have s2 := Lib.hid (show fitsV n zs cl = false by unfold fitsV; rw [s1.out]; rfl)
      have c2 : ((m : Int) != n) = true := by simpa using c1
      have c3 : ((m : Int) == n) = false := by simpa using c1
      clear c0 c1
      go_enter Tryd.func20, Tryd.ntmps20
      go_wp2_with fail
      refine (C.out _ (by repeat (first | with_reducible exact Below.refl _ _ | (with_reducible refine Below.alloc ?_ (by first | omega | (simp; done) | (simp; omega)) _) | (with_reducible refine Below.setCell ?_ (by first | omega | (simp; done) | (simp; omega)) _) | (with_reducible refine Below.drew ?_) | (with_reducible refine below_drewN ?_ _) | (with_reducible assumption) | (with_reducible refine bel_step (by with_reducible assumption) ?_ (by first | omega | (simp; done) | (simp; omega)))))).mono ?_
      rintro e w1 ⟨rfl, hb1⟩
      have x0 : w1.cell? ⟨w.heap.size, 0, none⟩ = some (.slice B m d) := (hb1.cell (p := ⟨w.heap.size, 0, none⟩) (by simp)).trans (by simp)
      have HB1 := Lib.hid (show Below w.heap.size w w1 by have := hb1; exact (by repeat (first | with_reducible exact Below.refl _ _ | (with_reducible refine Below.alloc ?_ (by first | omega | (simp; done) | (simp; omega)) _) | (with_reducible refine Below.setCell ?_ (by first | omega | (simp; done) | (simp; omega)) _) | (with_reducible refine Below.drew ?_) | (with_reducible refine below_drewN ?_ _) | (with_reducible assumption) | (with_reducible refine bel_step (by with_reducible assumption) ?_ (by first | omega | (simp; done) | (simp; omega))))))
      clear hb1
      go_wp2_with fail
      go_ret2
      exact ⟨by rw [s1.out, s2.out]; rfl, HB1.out⟩
  · have s1 := Lib.hid (show fitsC n zs cl = edgesC n zs by unfold fitsC; rw [if_neg c0])
    have s2 := Lib.hid (show fitsV n zs cl = false by unfold fitsV; rw [s1.out, decide_eq_false c0]; rfl)
    rw [errV_ne c0] at C
    have C0 := Lib.hid c0
    clear c0
    go_enter Tryd.func20, Tryd.ntmps20
    go_wp2_with fail
    refine (C.out _ (by repeat (first | with_reducible exact Below.refl _ _ | (with_reducible refine Below.alloc ?_ (by first | omega | (simp; done) | (simp; omega)) _) | (with_reducible refine Below.setCell ?_ (by first | omega | (simp; done) | (simp; omega)) _) | (with_reducible refine Below.drew ?_) | (with_reducible refine below_drewN ?_ _) | (with_reducible assumption) | (with_reducible refine bel_step (by with_reducible assumption) ?_ (by first | omega | (simp; done) | (simp; omega)))))).mono ?_
    rintro e w1 ⟨rfl, hb1⟩
    have HB1 := Lib.hid (show Below w.heap.size w w1 by have := hb1; exact (by repeat (first | with_reducible exact Below.refl _ _ | (with_reducible refine Below.alloc ?_ (by first | omega | (simp; done) | (simp; omega)) _) | (with_reducible refine Below.setCell ?_ (by first | omega | (simp; done) | (simp; omega)) _) | (with_reducible refine Below.drew ?_) | (with_reducible refine below_drewN ?_ _) | (with_reducible assumption) | (with_reducible refine bel_step (by with_reducible assumption) ?_ (by first | omega | (simp; done) | (simp; omega))))))
    clear hb1
    go_wp2_with fail
    go_ret2
    exact ⟨by rw [s1.out, s2.out, errV_ne C0.out]; rfl, HB1.out⟩
end Go.Proofs.YtmficdfihogffaaDoor
