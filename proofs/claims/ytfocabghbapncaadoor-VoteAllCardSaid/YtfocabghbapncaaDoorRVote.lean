/- The reference's votes, walked: Has, all, Most, Safe. -/
import Derived.Test.YtfocabghbapncaaDoorRMeet
import Derived.Test.YtfocabghbapncaaDoorVoteR
namespace Go.Proofs.YtfocabghbapncaaDoor
open Go.RowKit Go.Shelf
set_option linter.unusedVariables false
set_option linter.unusedSimpArgs false
theorem cntS_snoc {zs : List RSpan} {k : Nat} {z : RSpan} (x : Int) (h : zs[k]? = some z) : cntS (zs.take (k + 1)) x = cntS (zs.take k) x + (if inS x z = true then 1 else 0) := by
  unfold cntS
  rw [List.take_add_one, h, List.countP_append]
  simp [List.countP_cons]
/-- the count as an integer. -/
def cntI (zs : List RSpan) (x : Int) : Int := (cntS zs x : Int)
theorem inS_yes {x : Int} {z : RSpan} (h1 : z.lo ≤ x) (h2 : x ≤ z.hi) : inS x z = true := by unfold inS; simp; omega
theorem inS_no {x : Int} {z : RSpan} (h : ¬ (z.lo ≤ x ∧ x ≤ z.hi)) : inS x z = false := by
  unfold inS
  by_cases c : z.lo ≤ x
  · have : ¬ x ≤ z.hi := fun h2 => h ⟨c, h2⟩
    simp [this]
  · simp [c]
theorem cnt_le (zs : List RSpan) (x : Int) : cntS zs x ≤ zs.length := List.countP_le_length
/-- all numbers between are in as many. -/
def AllP (zs : List RSpan) (lo hi m : Int) : Prop :=
  cntI zs lo = m ∧ cntI zs hi = m ∧ ∀ z ∈ zs, (lo ≤ z.lo → z.lo ≤ hi → cntI zs z.lo = m) ∧ (lo ≤ z.hi + 1 → z.hi + 1 ≤ hi → cntI zs (z.hi + 1) = m)
theorem AllP.all {zs : List RSpan} {lo hi m : Int} (h : AllP zs lo hi m) : ∀ x, lo ≤ x → x ≤ hi → cntI zs x = m := by
  obtain ⟨h1, h2, h3⟩ := h
  intro x a b
  unfold cntI at h1 h3 ⊢
  have := cnt_all_between (zs := zs) (lo := lo) (hi := hi) (m := m.toNat) (by omega) (fun z hz p q => by have := (h3 z hz).1 p q; omega) (fun z hz p q => by have := (h3 z hz).2 p q; omega) (x - lo).toNat (by omega)
  rw [show lo + ((x - lo).toNat : Int) = x by omega] at this
  omega
theorem AllP.of {zs : List RSpan} {lo hi m : Int} (hl : lo ≤ hi) (h : ∀ x, lo ≤ x → x ≤ hi → cntI zs x = m) : AllP zs lo hi m :=
  ⟨h lo (by omega) hl, h hi hl (by omega), fun z _ => ⟨fun a b => h _ a b, fun a b => h _ a b⟩⟩
/-- the most so far, and the least beginning that is in so many. -/
def TopI (zs : List RSpan) (i : Nat) (top at_ : Int) : Prop :=
  (i = 0 ∧ top = 0 ∧ at_ = 0) ∨ (1 ≤ i ∧ top = cntI zs at_ ∧ (∀ z ∈ zs.take i, cntI zs z.lo ≤ top ∧ (cntI zs z.lo = top → at_ ≤ z.lo)) ∧ ∃ z ∈ zs.take i, z.lo = at_)
theorem take_mem {α : Type} {zs : List α} {i : Nat} {z x : α} (h : zs[i]? = some z) (hx : x ∈ zs.take (i + 1)) : x ∈ zs.take i ∨ x = z := by
  rw [List.take_add_one, h] at hx
  simpa using hx
theorem mem_take1 {α : Type} {zs : List α} {i : Nat} {z : α} (h : zs[i]? = some z) : z ∈ zs.take (i + 1) := by
  rw [List.take_add_one, h]; simp
theorem mem_take2 {α : Type} {zs : List α} {i : Nat} {x : α} (h : x ∈ zs.take i) : x ∈ zs.take (i + 1) := by
  rw [List.take_add_one]; simp [h]
theorem cnt_lo {zs : List RSpan} (hr : ∀ z ∈ zs, spB z = true) {z : RSpan} (hz : z ∈ zs) : 1 ≤ cntI zs z.lo := by
  have : 0 < cntS zs z.lo := List.countP_pos_iff.2 ⟨z, hz, inS_yes (Int.le_refl _) (bounds_S (hr z hz)).1⟩
  unfold cntI; omega
theorem TopI.new {zs : List RSpan} {i : Nat} {top at_ : Int} {z : RSpan} (h : TopI zs i top at_) (hz : zs[i]? = some z) (hc : top < cntI zs z.lo ∨ (cntI zs z.lo = top ∧ z.lo < at_)) : TopI zs (i + 1) (cntI zs z.lo) z.lo := by
  refine .inr ⟨by omega, rfl, fun x hx => ?_, z, mem_take1 hz, rfl⟩
  rcases h with ⟨rfl, _, _⟩ | ⟨_, h1, h2, _⟩
  · rcases take_mem hz hx with hx | rfl
    · simp at hx
    · exact ⟨Int.le_refl _, fun _ => Int.le_refl _⟩
  · rcases take_mem hz hx with hx | rfl
    · obtain ⟨a, b⟩ := h2 x hx
      refine ⟨by omega, fun e => ?_⟩
      rcases hc with c | ⟨c, c'⟩
      · omega
      · have := b (by omega); omega
    · exact ⟨Int.le_refl _, fun _ => Int.le_refl _⟩
theorem TopI.old {zs : List RSpan} {i : Nat} {top at_ : Int} {z : RSpan} (h : TopI zs i top at_) (hz : zs[i]? = some z) (h1 : 1 ≤ cntI zs z.lo) (hc : ¬ top < cntI zs z.lo) (hd : ¬ (cntI zs z.lo = top ∧ z.lo < at_)) : TopI zs (i + 1) top at_ := by
  rcases h with ⟨rfl, rfl, _⟩ | ⟨a1, a2, a3, x, hx, hx2⟩
  · omega
  · refine .inr ⟨by omega, a2, fun y hy => ?_, x, mem_take2 hx, hx2⟩
    rcases take_mem hz hy with hy | rfl
    · exact a3 y hy
    · exact ⟨by omega, fun e => by
        rcases Int.lt_or_le y.lo at_ with c | c
        · exact absurd ⟨e, c⟩ hd
        · exact c⟩
/-- a number of some span: the last beginning up to it is in as many at least. -/
theorem lo_ge {zs : List RSpan} : ∀ x, 0 < cntS zs x → ∃ z ∈ zs, z.lo ≤ x ∧ cntS zs x ≤ cntS zs z.lo := by
  intro x hx
  have key : ∀ l : List RSpan, (∀ z ∈ l, z ∈ zs) → (∃ z ∈ l, z.lo ≤ x ∧ x ≤ z.hi) → ∃ z ∈ l, (z.lo ≤ x ∧ x ≤ z.hi) ∧ ∀ y ∈ l, y.lo ≤ x → x ≤ y.hi → y.lo ≤ z.lo := by
    intro l
    induction l with
    | nil => rintro _ ⟨z, hz, _⟩; cases hz
    | cons a l ih =>
      intro hs hex
      by_cases c : ∃ z ∈ l, z.lo ≤ x ∧ x ≤ z.hi
      · obtain ⟨z, hz, h1, h2⟩ := ih (fun z hz => hs z (List.mem_cons_of_mem _ hz)) c
        by_cases d : (a.lo ≤ x ∧ x ≤ a.hi) ∧ z.lo < a.lo
        · refine ⟨a, List.mem_cons_self .., d.1, fun y hy p q => ?_⟩
          rcases List.mem_cons.1 hy with rfl | hy
          · omega
          · have := h2 y hy p q; omega
        · refine ⟨z, List.mem_cons_of_mem _ hz, h1, fun y hy p q => ?_⟩
          rcases List.mem_cons.1 hy with rfl | hy
          · omega
          · exact h2 y hy p q
      · obtain ⟨z, hz, h1⟩ := hex
        rcases List.mem_cons.1 hz with rfl | hz
        · refine ⟨z, List.mem_cons_self .., h1, fun y hy p q => ?_⟩
          rcases List.mem_cons.1 hy with rfl | hy
          · omega
          · exact absurd ⟨y, hy, p, q⟩ c
        · exact absurd ⟨z, hz, h1⟩ c
  obtain ⟨z0, hz0, h0⟩ := cnt_pos hx
  obtain ⟨z, hz, h1, h2⟩ := key zs (fun z hz => hz) ⟨z0, hz0, h0⟩
  refine ⟨z, hz, h1.1, ?_⟩
  unfold cntS
  refine List.countP_mono_left fun y hy hyx => ?_
  unfold inS at hyx ⊢
  simp only [Bool.and_eq_true, decide_eq_true_eq] at hyx ⊢
  have := h2 y hy hyx.1 hyx.2
  omega
theorem hi_ge {zs : List RSpan} : ∀ x, 0 < cntS zs x → ∃ z ∈ zs, x ≤ z.hi ∧ cntS zs x ≤ cntS zs z.hi := by
  intro x hx
  have key : ∀ l : List RSpan, (∀ z ∈ l, z ∈ zs) → (∃ z ∈ l, z.lo ≤ x ∧ x ≤ z.hi) → ∃ z ∈ l, (z.lo ≤ x ∧ x ≤ z.hi) ∧ ∀ y ∈ l, y.lo ≤ x → x ≤ y.hi → z.hi ≤ y.hi := by
    intro l
    induction l with
    | nil => rintro _ ⟨z, hz, _⟩; cases hz
    | cons a l ih =>
      intro hs hex
      by_cases c : ∃ z ∈ l, z.lo ≤ x ∧ x ≤ z.hi
      · obtain ⟨z, hz, h1, h2⟩ := ih (fun z hz => hs z (List.mem_cons_of_mem _ hz)) c
        by_cases d : (a.lo ≤ x ∧ x ≤ a.hi) ∧ a.hi < z.hi
        · refine ⟨a, List.mem_cons_self .., d.1, fun y hy p q => ?_⟩
          rcases List.mem_cons.1 hy with rfl | hy
          · omega
          · have := h2 y hy p q; omega
        · refine ⟨z, List.mem_cons_of_mem _ hz, h1, fun y hy p q => ?_⟩
          rcases List.mem_cons.1 hy with rfl | hy
          · omega
          · exact h2 y hy p q
      · obtain ⟨z, hz, h1⟩ := hex
        rcases List.mem_cons.1 hz with rfl | hz
        · refine ⟨z, List.mem_cons_self .., h1, fun y hy p q => ?_⟩
          rcases List.mem_cons.1 hy with rfl | hy
          · omega
          · exact absurd ⟨y, hy, p, q⟩ c
        · exact absurd ⟨z, hz, h1⟩ c
  obtain ⟨z0, hz0, h0⟩ := cnt_pos hx
  obtain ⟨z, hz, h1, h2⟩ := key zs (fun z hz => hz) ⟨z0, hz0, h0⟩
  refine ⟨z, hz, h1.2, ?_⟩
  unfold cntS
  refine List.countP_mono_left fun y hy hyx => ?_
  unfold inS at hyx ⊢
  simp only [Bool.and_eq_true, decide_eq_true_eq] at hyx ⊢
  have := h2 y hy hyx.1 hyx.2
  omega
/-- how far it goes on. -/
def HiI (zs : List RSpan) (at_ top hi : Int) : Prop := at_ ≤ hi ∧ hi ≤ 1000000000000 ∧ ∀ x, at_ ≤ x → x ≤ hi → cntI zs x = top
theorem TopI.done {zs : List RSpan} (hr : ∀ z ∈ zs, spB z = true) (h0 : 0 < zs.length) {top at_ hi : Int} (h : TopI zs zs.length top at_) (hh : HiI zs at_ top hi) (hno : ∀ z ∈ zs, ¬ (hi < z.hi ∧ AllP zs at_ z.hi top)) : IsMost zs at_ hi top := by
  rcases h with ⟨h, _, _⟩ | ⟨a1, a2, a3, za, hza, hza2⟩
  · omega
  rw [List.take_length] at a3 hza
  have ht : 1 ≤ top := by rw [a2, ← hza2]; exact cnt_lo hr hza
  have hle : ∀ x, (cntS zs x : Int) ≤ top := fun x => by
    by_cases c : 0 < cntS zs x
    · obtain ⟨z, hz, _, h2⟩ := lo_ge x c
      have := (a3 z hz).1
      unfold cntI at this; omega
    · omega
  refine ⟨hle, fun x hx => ?_, hh.1, fun x p q => hh.2.2 x p q, ?_⟩
  · rcases Int.lt_or_le (cntS zs x : Int) top with c | c
    · exact c
    · obtain ⟨z, hz, h1, h2⟩ := lo_ge (zs := zs) x (by omega)
      have h3 := (a3 z hz)
      unfold cntI at h3
      have := h3.2 (by omega); omega
  · rcases Int.lt_or_le (cntS zs (hi + 1) : Int) top with c | c
    · exact c
    · exfalso
      have key : ∀ d : Nat, ∀ x, at_ ≤ x → x ≤ hi + 1 + d → cntI zs x = top := by
        intro d
        induction d with
        | zero =>
          intro x p q
          by_cases e : x ≤ hi
          · exact hh.2.2 x p e
          · obtain rfl : x = hi + 1 := by omega
            have := hle (hi + 1); unfold cntI; omega
        | succ d ih =>
          intro x p q
          by_cases e : x ≤ hi + 1 + d
          · exact ih x p e
          · obtain rfl : x = hi + 1 + d + 1 := by omega
            rcases Int.lt_or_le (cntS zs (hi + 1 + d + 1) : Int) top with g | g
            · exfalso
              have h1 := ih (hi + 1 + d) (by have := hh.1; omega) (by omega)
              unfold cntI at h1
              obtain ⟨z, hz, e1, _⟩ := cnt_drop (zs := zs) (x := hi + 1 + d) (by omega)
              exact hno z hz ⟨by omega, AllP.of (by have := hh.1; omega) fun y p q => ih y p (by omega)⟩
            · have := hle (hi + 1 + d + 1); unfold cntI; omega
      have h1 := key (1000000000001 - hi).toNat 1000000000001 (by have := hh.1; have := hh.2.1; omega) (by have := hh.2.1; omega)
      unfold cntI at h1
      obtain ⟨z, hz, _, h2⟩ := cnt_pos (zs := zs) (x := 1000000000001) (by omega)
      have := (bounds_S (hr z hz)).2.2
      omega
set_option maxRecDepth 100000 in
set_option maxHeartbeats 4000000 in
theorem r1_Has (A : Option Addr) (n c : Nat) (zs : List RSpan) (x : Int) (w : World) (h : IsRecs w RSpan.cells RSpan.ok 2 A n c zs) (h40 : n ≤ 40) :
    Calls Tryd.prog 22 #[.slice A n c, .int .i64 x] w fun e w' => e = .returned (.int .i64 (cntI zs x)) ∧ w = w' := by
  obtain ⟨l1, l2, l3, l4, l5⟩ := h
  unfold maxLen at l3
  have L1 := Lib.hid l1
  have L5 := Lib.hid l5
  have HR := Lib.hid (show (∀ k, k = n → (((cntS (zs.take k) x : Nat)) : Int) = cntI zs x) from fun k hk => by unfold cntI; rw [List.take_of_length_le (by omega)])
  clear l1 l4 l5
  go_enter Tryd.func22, Tryd.ntmps22
  go_wp2_with fail
  go_loop [5, 6] (fun kv iv => ∃ i K : Nat, iv = .int .i64 i ∧ kv = .int .i64 (K : Int) ∧ K = cntS (zs.take i) x ∧ i ≤ n ∧ K ≤ i) (fun _ iv => n - (intOf iv).toNat)
  case atStart => exact ⟨0, 0, rfl, rfl, rfl, by omega, by omega⟩
  case round =>
    obtain ⟨i, K, rfl, rfl, hK, hi, hKi⟩ := hrel
    have HK := Lib.hid hK
    clear hK
    by_cases d1 : i < n
    · obtain ⟨b, off, rfl, hb, hc⟩ := L5.out (by omega)
      obtain ⟨z, hz⟩ : ∃ z, zs[i]? = some z := ⟨_, List.getElem?_eq_getElem (by rw [L1.out]; omega)⟩
      have x0 : w.cell? ⟨b, off + i * 2, none⟩ = some (.int .i64 z.lo) := hc i z hz 0 _ rfl
      have x1 : w.cell? ⟨b, off + i * 2 + 1, none⟩ = some (.int .i64 z.hi) := hc i z hz 1 _ rfl
      have HS := Lib.hid (cntS_snoc x hz)
      clear hc hz
      by_cases a1 : z.lo ≤ x
      · by_cases a2 : x ≤ z.hi
        · have HN := Lib.hid (show K + 1 = cntS (zs.take (i + 1)) x by rw [HS.out, ← HK.out, if_pos (inS_yes a1 a2)])
          clear HS
          go_wp2_with fail
          go_round
          case rel => exact ⟨i + 1, K + 1, by go_num, by go_num, HN.out, by omega, by omega⟩
          case measure => simp [intOf]; omega
        · have HN := Lib.hid (show K = cntS (zs.take (i + 1)) x by rw [HS.out, ← HK.out, if_neg (by rw [inS_no (by omega)]; simp)]; rfl)
          clear HS
          go_wp2_with fail
          go_round
          case rel => exact ⟨i + 1, K, by go_num, rfl, HN.out, by omega, by omega⟩
          case measure => simp [intOf]; omega
      · have HN := Lib.hid (show K = cntS (zs.take (i + 1)) x by rw [HS.out, ← HK.out, if_neg (by rw [inS_no (by omega)]; simp)]; rfl)
        clear HS
        go_wp2_with fail
        go_round
        case rel => exact ⟨i + 1, K, by go_num, rfl, HN.out, by omega, by omega⟩
        case measure => simp [intOf]; omega
    · have HF := Lib.hid (show (K : Int) = cntI zs x by rw [HK.out]; exact HR.out i (by omega))
      go_wp2_with fail
      go_ret
      exact ⟨ret_int HF.out, rfl⟩
def AllRet (zs : List RSpan) (lo hi m : Int) (w : World) (e : Ending) (w' : World) : Prop := ∃ b : Bool, e = .returned (.bool b) ∧ (b = true ↔ AllP zs lo hi m) ∧ w = w'
set_option maxRecDepth 100000 in
set_option maxHeartbeats 8000000 in
theorem r1_all (A : Option Addr) (n c : Nat) (zs : List RSpan) (lo hi m : Int) (w : World) (h : IsRecs w RSpan.cells RSpan.ok 2 A n c zs) (hr : ∀ z ∈ zs, spB z = true) (h40 : n ≤ 40) :
    Calls Tryd.prog 23 #[.slice A n c, .int .i64 lo, .int .i64 hi, .int .i64 m] w (AllRet zs lo hi m w) := by
  have CH := Lib.hid (fun x => r1_Has A n c zs x w h h40)
  obtain ⟨l1, l2, l3, l4, l5⟩ := h
  unfold maxLen at l3
  have L1 := Lib.hid l1
  have L5 := Lib.hid l5
  have HRt := Lib.hid hr
  clear l1 l4 l5 hr
  by_cases c1 : cntI zs lo = m
  · by_cases c2 : cntI zs hi = m
    · have HNO := Lib.hid (show ∀ z ∈ zs, ((lo ≤ z.lo ∧ z.lo ≤ hi ∧ (cntI zs z.lo != m) = true) ∨ (lo ≤ z.hi + 1 ∧ z.hi + 1 ≤ hi ∧ (cntI zs (z.hi + 1) != m) = true)) → (false = true ↔ AllP zs lo hi m) from fun z hz hx => ⟨fun h => (by cases h), fun h => by
        have := h.2.2 z hz
        rcases hx with ⟨p, q, r⟩ | ⟨p, q, r⟩
        · rw [this.1 p q] at r; simp at r
        · rw [this.2 p q] at r; simp at r⟩)
      have HYES := Lib.hid (show (∀ z ∈ zs.take n, (lo ≤ z.lo → z.lo ≤ hi → cntI zs z.lo = m) ∧ (lo ≤ z.hi + 1 → z.hi + 1 ≤ hi → cntI zs (z.hi + 1) = m)) → (true = true ↔ AllP zs lo hi m) from fun hx => ⟨fun _ => ⟨c1, c2, by rwa [List.take_of_length_le (by rw [L1.out]; omega)] at hx⟩, fun _ => rfl⟩)
      have b1 : (cntI zs lo != m) = false := by simp [c1]
      have b2 : (cntI zs hi != m) = false := by simp [c2]
      have b1' : (cntI zs lo == m) = true := by simp [c1]
      have b2' : (cntI zs hi == m) = true := by simp [c2]
      clear c1 c2
      go_enter Tryd.func23, Tryd.ntmps23
      go_wp2_with (go_at_call 22; refine (CH.out _).mono ?_; rintro e w' ⟨rfl, rfl⟩)
      clear b1 b2 b1' b2'
      go_loop [9] (fun iv => ∃ i : Nat, iv = .int .i64 i ∧ i ≤ n ∧ ∀ z ∈ zs.take i, (lo ≤ z.lo → z.lo ≤ hi → cntI zs z.lo = m) ∧ (lo ≤ z.hi + 1 → z.hi + 1 ≤ hi → cntI zs (z.hi + 1) = m)) (fun iv => n - (intOf iv).toNat)
      case atStart => exact ⟨0, rfl, by omega, fun x hx => by simp at hx⟩
      case round =>
        obtain ⟨i, rfl, hi', hI⟩ := hrel
        have HI := Lib.hid hI
        clear hI
        by_cases d1 : i < n
        · obtain ⟨b, off, rfl, hb, hc⟩ := L5.out (by omega)
          obtain ⟨z, hz⟩ : ∃ z, zs[i]? = some z := ⟨_, List.getElem?_eq_getElem (by rw [L1.out]; omega)⟩
          have x0 : w.cell? ⟨b, off + i * 2, none⟩ = some (.int .i64 z.lo) := hc i z hz 0 _ rfl
          have x1 : w.cell? ⟨b, off + i * 2 + 1, none⟩ = some (.int .i64 z.hi) := hc i z hz 1 _ rfl
          have HN := Lib.hid (HNO.out z (List.mem_of_getElem? hz))
          have HZ := Lib.hid hz
          have hb := bounds_S (HRt.out z (List.mem_of_getElem? hz))
          clear hc hz
          have HS := Lib.hid (fun (p : lo ≤ z.lo → z.lo ≤ hi → (cntI zs z.lo != m) = false) (q : lo ≤ z.hi + 1 → z.hi + 1 ≤ hi → (cntI zs (z.hi + 1) != m) = false) => show ∀ y ∈ zs.take (i + 1), (lo ≤ y.lo → y.lo ≤ hi → cntI zs y.lo = m) ∧ (lo ≤ y.hi + 1 → y.hi + 1 ≤ hi → cntI zs (y.hi + 1) = m) from fun y hy => by
            rcases take_mem HZ.out hy with hy | rfl
            · exact HI.out y hy
            · exact ⟨fun a b => by simpa using p a b, fun a b => by simpa using q a b⟩)
          go_wp2_with (go_at_call 22; refine (CH.out _).mono ?_; rintro e w' ⟨rfl, rfl⟩)
          all_goals (try (go_ret; exact ⟨false, rfl, HN.out (by first | exact .inl ⟨by omega, by omega, by assumption⟩ | exact .inr ⟨by omega, by omega, by assumption⟩), rfl⟩))
          all_goals
            go_round
            case rel => exact ⟨i + 1, by go_num, by omega, HS.out (by intro _ _; first | assumption | (exfalso; omega)) (by intro _ _; first | assumption | (exfalso; omega))⟩
            case measure => simp [intOf]; omega
        · obtain rfl : i = n := by omega
          have HF := Lib.hid (HYES.out HI.out)
          go_wp2_with fail
          go_ret
          exact ⟨true, rfl, by simpa using HF.out, rfl⟩
    · have HF := Lib.hid (show (false = true ↔ AllP zs lo hi m) from ⟨fun h => (by cases h), fun h => absurd h.2.1 c2⟩)
      go_enter Tryd.func23, Tryd.ntmps23
      go_wp2_with (go_at_call 22; refine (CH.out _).mono ?_; rintro e w' ⟨rfl, rfl⟩)
      go_ret
      exact ⟨false, rfl, HF.out, rfl⟩
  · have HF := Lib.hid (show (false = true ↔ AllP zs lo hi m) from ⟨fun h => (by cases h), fun h => absurd h.1 c1⟩)
    go_enter Tryd.func23, Tryd.ntmps23
    go_wp2_with (go_at_call 22; refine (CH.out _).mono ?_; rintro e w' ⟨rfl, rfl⟩)
    go_ret
    exact ⟨false, rfl, HF.out, rfl⟩
def flagN : Value → Nat
  | .bool true => 1
  | _ => 0
set_option maxRecDepth 100000 in
set_option maxHeartbeats 8000000 in
theorem r1_Most (A : Option Addr) (n c : Nat) (zs : List RSpan) (w : World) (h : IsRecs w RSpan.cells RSpan.ok 2 A n c zs) (hr : ∀ z ∈ zs, spB z = true) (h0 : 0 < n) (h40 : n ≤ 40) :
    Calls Tryd.prog 9 #[.slice A n c] w fun e w' => ∃ lo hi top : Int, e = .returned (.tuple #[.agg #[.int .i64 lo, .int .i64 hi], .int .i64 top]) ∧ IsMost zs lo hi top ∧ Below w.heap.size w w' := by
  have CH := Lib.hid (fun x w' (hb : Below w.heap.size w w') => r1_Has A n c zs x w' (h.below hb) h40)
  have CA := Lib.hid (fun lo hi m w' (hb : Below w.heap.size w w') => r1_all A n c zs lo hi m w' (h.below hb) hr h40)
  obtain ⟨l1, l2, l3, l4, l5⟩ := h
  unfold maxLen at l3
  obtain ⟨b, off, rfl, hb, hc⟩ := l5 h0
  have L1 := Lib.hid l1
  have HRt := Lib.hid hr
  have HC := Lib.hid (show ∀ wr, Below w.heap.size w wr → ∀ k z, zs[k]? = some z → wr.cell? ⟨b, off + k * 2, none⟩ = some (.int .i64 z.lo) ∧ wr.cell? ⟨b, off + k * 2 + 1, none⟩ = some (.int .i64 z.hi) from fun wr hB k z hz =>
    ⟨(hB.cell (p := ⟨b, off + k * 2, none⟩) hb).trans (hc k z hz 0 _ rfl), (hB.cell (p := ⟨b, off + k * 2 + 1, none⟩) hb).trans (hc k z hz 1 _ rfl)⟩)
  have HDONE := Lib.hid (fun top at_ hi (q1 : TopI zs n top at_) (q2 : HiI zs at_ top hi) (q3 : ∀ z ∈ zs, ¬ (hi < z.hi ∧ AllP zs at_ z.hi top)) => TopI.done hr (by rw [l1]; exact h0) (by rw [l1]; exact q1) q2 q3)
  clear l1 l4 l5 hr hc
  go_enter Tryd.func9, Tryd.ntmps9
  go_wp2_with fail
  obtain ⟨W0, hW0⟩ : ∃ W0, w.alloc (.cells #[.int .i64 0, .int .i64 0] 25) = W0 := ⟨_, rfl⟩
  rw [hW0]
  have HB0 := Lib.hid (show Below w.heap.size w W0 from by rw [← hW0]; exact (Below.refl _ w).alloc (Nat.le_refl _) _)
  have HBk := Lib.hid (show Blk W0 w.heap.size 25 #[.int .i64 0, .int .i64 0] from by rw [← hW0]; exact Blk.new w _ _)
  have r0 : W0.cell? ⟨w.heap.size, 0, none⟩ = some (.int .i64 0) := HBk.out.cell 0
  have r1 : W0.cell? ⟨w.heap.size, 1, none⟩ = some (.int .i64 0) := HBk.out.cell 1
  have f0 := HBk.out.fz 0
  have f1 := HBk.out.fz 1
  have lt0 : w.heap.size < W0.heap.size := HBk.out.lt
  clear hW0
  go_loop [4, 5, 6] (fun tv av iv => ∃ (i : Nat) (top at_ : Int), iv = .int .i64 i ∧ tv = .int .i64 top ∧ av = .int .i64 at_ ∧ i ≤ n ∧ TopI zs i top at_) (fun _ _ iv => n - (intOf iv).toNat)
  case atStart => exact ⟨0, 0, 0, rfl, rfl, rfl, by omega, .inl ⟨rfl, rfl, rfl⟩⟩
  case round =>
    obtain ⟨i, top, at_, rfl, rfl, rfl, hin, hT⟩ := hrel
    have HT := Lib.hid hT
    clear hT
    by_cases d1 : i < n
    · obtain ⟨z, hz⟩ : ∃ z, zs[i]? = some z := ⟨_, List.getElem?_eq_getElem (by rw [L1.out]; omega)⟩
      obtain ⟨x0, x1⟩ := HC.out W0 HB0.out i z hz
      have HNew := Lib.hid (fun hc => HT.out.new hz hc)
      have HOld := Lib.hid (fun h1 h2 => HT.out.old hz (cnt_lo HRt.out (List.mem_of_getElem? hz)) h1 h2)
      clear hz x1
      rcases (by omega : top < cntI zs z.lo ∨ (¬ top < cntI zs z.lo ∧ cntI zs z.lo = top ∧ z.lo < at_) ∨ (¬ top < cntI zs z.lo ∧ cntI zs z.lo = top ∧ ¬ z.lo < at_) ∨ (¬ top < cntI zs z.lo ∧ cntI zs z.lo ≠ top)) with c | ⟨c, c2, c3⟩ | ⟨c, c2, c3⟩ | ⟨c, c2⟩
      · have HN := Lib.hid (HNew.out (.inl c))
        go_wp2_with (go_at_call 22; refine (CH.out _ _ HB0.out).mono ?_; rintro e w' ⟨rfl, rfl⟩)
        go_round
        case rel => exact ⟨i + 1, _, _, by go_num, rfl, rfl, by omega, HN.out⟩
        case measure => simp [intOf]; omega
      · have HN := Lib.hid (HNew.out (.inr ⟨c2, c3⟩))
        have b2 : (cntI zs z.lo == top) = true := by simp [c2]
        clear c2
        go_wp2_with (go_at_call 22; refine (CH.out _ _ HB0.out).mono ?_; rintro e w' ⟨rfl, rfl⟩)
        go_round
        case rel => exact ⟨i + 1, _, _, by go_num, rfl, rfl, by omega, HN.out⟩
        case measure => simp [intOf]; omega
      · have HN := Lib.hid (HOld.out c (fun h => c3 h.2))
        have b2 : (cntI zs z.lo == top) = true := by simp [c2]
        clear c2
        go_wp2_with (go_at_call 22; refine (CH.out _ _ HB0.out).mono ?_; rintro e w' ⟨rfl, rfl⟩)
        go_round
        case rel => exact ⟨i + 1, _, _, by go_num, rfl, rfl, by omega, HN.out⟩
        case measure => simp [intOf]; omega
      · have HN := Lib.hid (HOld.out c (fun h => c2 h.1))
        have b2 : (cntI zs z.lo == top) = false := by simp [c2]
        clear c2
        go_wp2_with (go_at_call 22; refine (CH.out _ _ HB0.out).mono ?_; rintro e w' ⟨rfl, rfl⟩)
        go_round
        case rel => exact ⟨i + 1, _, _, by go_num, rfl, rfl, by omega, HN.out⟩
        case measure => simp [intOf]; omega
    · obtain rfl : i = n := by omega
      have hat : at_ ≤ 1000000000000 ∧ HiI zs at_ top at_ := by
        rcases HT.out with ⟨h, _, _⟩ | ⟨_, h1, h2, z, hz, h3⟩
        · omega
        · have hb := bounds_S (HRt.out z (List.mem_of_mem_take hz))
          exact ⟨by omega, Int.le_refl _, by omega, fun x p q => by obtain rfl : x = at_ := by omega
                                                                    exact h1.symm⟩
      have HH := Lib.hid hat.2
      have ha := hat.1
      clear hat d1
      go_wp2_with fail
      go_loop [8, 9] (fun hv gv => ∃ (hi : Int) (g : Bool), hv = .int .i64 hi ∧ gv = .bool g ∧ HiI zs at_ top hi ∧ (g = false → ∀ z ∈ zs, ¬ (hi < z.hi ∧ AllP zs at_ z.hi top))) (fun hv gv => (1000000000000 - intOf hv).toNat + flagN gv)
      case atStart => exact ⟨at_, true, rfl, rfl, HH.out, fun h => by cases h⟩
      case round =>
        obtain ⟨hi, g, rfl, rfl, hH, hg⟩ := hrel
        have HH := Lib.hid hH
        have hi2 := hH.2.1
        clear hH
        cases g
        · have HD := Lib.hid (HDONE.out top at_ hi HT.out HH.out (hg rfl))
          clear hg
          go_wp2_with fail
          refine bodyPost_ret (v := .tuple #[.agg #[.int .i64 at_, .int .i64 hi], .int .i64 top]) (by simp [results, Tryd.results9, go_sem, *]) rfl ⟨at_, hi, top, rfl, HD.out, ?_⟩
          exact (HB0.out.setCell (p := ⟨w.heap.size, 0, none⟩) (Nat.le_refl _) _).setCell (p := ⟨w.heap.size, 1, none⟩) (Nat.le_refl _) _
        · clear hg
          go_wp2_with fail
          go_loop [8, 9, 10] (fun hv gv kv => ∃ (k : Nat) (hj : Int) (g : Bool), kv = .int .i64 k ∧ hv = .int .i64 hj ∧ gv = .bool g ∧ k ≤ i ∧ HiI zs at_ top hj ∧ (g = true → hi < hj) ∧ (g = false → hj = hi ∧ ∀ z ∈ zs.take k, ¬ (hi < z.hi ∧ AllP zs at_ z.hi top))) (fun _ _ kv => i - (intOf kv).toNat)
          case atStart => exact ⟨0, hi, false, rfl, rfl, rfl, by omega, HH.out, fun h => (by cases h), fun _ => ⟨rfl, fun x hx => by simp at hx⟩⟩
          case round =>
            obtain ⟨k, hj, g, rfl, rfl, rfl, hk, hJ, g1, g2⟩ := hrel
            have HJ := Lib.hid hJ
            have G1 := Lib.hid g1
            have G2 := Lib.hid g2
            clear hJ g1 g2
            by_cases d2 : k < i
            · obtain ⟨z, hz⟩ : ∃ z, zs[k]? = some z := ⟨_, List.getElem?_eq_getElem (by rw [L1.out]; omega)⟩
              obtain ⟨x0, x1⟩ := HC.out W0 HB0.out k z hz
              have hzb := bounds_S (HRt.out z (List.mem_of_getElem? hz))
              have HZ := Lib.hid hz
              clear hz x0
              have HKEEP := Lib.hid (fun (hno : g = false → ¬ (hi < z.hi ∧ AllP zs at_ z.hi top)) => show (g = false → hj = hi ∧ ∀ y ∈ zs.take (k + 1), ¬ (hi < y.hi ∧ AllP zs at_ y.hi top)) from fun hg => ⟨(G2.out hg).1, fun y hy => by
                rcases take_mem HZ.out hy with hy | rfl
                · exact (G2.out hg).2 y hy
                · exact hno hg⟩)
              by_cases c1 : hj < z.hi
              · go_wp2_with fail
                refine (CA.out at_ z.hi top W0 HB0.out).mono ?_
                rintro e w' ⟨q, rfl, hq, rfl⟩
                have HQ := Lib.hid hq
                clear hq
                cases q
                · have HK2 := Lib.hid (HKEEP.out (fun _ h => by have := HQ.out.2 h.2; cases this))
                  clear HKEEP
                  go_wp2_with fail
                  go_round
                  case rel => exact ⟨k + 1, hj, g, by go_num, rfl, rfl, by omega, HJ.out, G1.out, HK2.out⟩
                  case measure => simp [intOf]; omega
                · have hlt : hi < z.hi := by
                    cases g
                    · have := (G2.out rfl).1; omega
                    · have := G1.out rfl; omega
                  have HH2 := Lib.hid (show HiI zs at_ top z.hi from ⟨by have := HJ.out.1; omega, by omega, (HQ.out.1 rfl).all⟩)
                  clear HKEEP
                  go_wp2_with fail
                  go_round
                  case rel => exact ⟨k + 1, z.hi, true, by go_num, rfl, rfl, by omega, HH2.out, fun _ => hlt, fun h => by cases h⟩
                  case measure => simp [intOf]; omega
              · have HK2 := Lib.hid (HKEEP.out (fun hg h => by have := (G2.out hg).1; omega))
                clear HKEEP
                go_wp2_with fail
                go_round
                case rel => exact ⟨k + 1, hj, g, by go_num, rfl, rfl, by omega, HJ.out, G1.out, HK2.out⟩
                case measure => simp [intOf]; omega
            · obtain rfl : k = i := by omega
              have hfin : (g = false → ∀ z ∈ zs, ¬ (hj < z.hi ∧ AllP zs at_ z.hi top)) := fun hg => by
                obtain ⟨rfl, h⟩ := G2.out hg
                rwa [List.take_of_length_le (by rw [L1.out]; omega)] at h
              have HF := Lib.hid hfin
              have hme : ((1000000000000 : Int) - hj).toNat + flagN (.bool g) < ((1000000000000 : Int) - hi).toNat + 1 := by
                cases g
                · obtain ⟨rfl, _⟩ := G2.out rfl
                  simp [flagN]
                · have := G1.out rfl
                  have := HJ.out.2.1
                  simp [flagN]; omega
              have HM := Lib.hid hme
              clear hfin hme
              go_wp2_with fail
              go_round
              case rel => exact ⟨hj, g, rfl, rfl, HJ.out, HF.out⟩
              case measure => simpa [intOf, flagN] using HM.out
/-- the least so far. -/
def SafeLo (zs : List RSpan) (need : Int) (i : Nat) (fd : Bool) (lo : Int) : Prop :=
  (fd = false → ∀ z ∈ zs.take i, cntI zs z.lo < need) ∧ (fd = true → need ≤ cntI zs lo ∧ ∀ z ∈ zs.take i, need ≤ cntI zs z.lo → lo ≤ z.lo)
def SafeHi (zs : List RSpan) (need : Int) (i : Nat) (ft : Bool) (hi : Int) : Prop :=
  (ft = true → ∀ z ∈ zs.take i, cntI zs z.hi < need) ∧ (ft = false → need ≤ cntI zs hi ∧ ∀ z ∈ zs.take i, need ≤ cntI zs z.hi → z.hi ≤ hi)
theorem SafeLo.old {zs : List RSpan} {need : Int} {i : Nat} {fd : Bool} {lo : Int} {z : RSpan} (h : SafeLo zs need i fd lo) (hz : zs[i]? = some z) (hc : cntI zs z.lo < need ∨ (fd = true ∧ lo ≤ z.lo)) : SafeLo zs need (i + 1) fd lo := by
  refine ⟨fun hf x hx => ?_, fun hf => ⟨(h.2 hf).1, fun x hx hn => ?_⟩⟩
  · rcases take_mem hz hx with hx | rfl
    · exact h.1 hf x hx
    · rcases hc with c | ⟨c, _⟩
      · exact c
      · rw [hf] at c; cases c
  · rcases take_mem hz hx with hx | rfl
    · exact (h.2 hf).2 x hx hn
    · rcases hc with c | ⟨_, c⟩
      · omega
      · exact c
theorem SafeLo.new {zs : List RSpan} {need : Int} {i : Nat} {fd : Bool} {lo : Int} {z : RSpan} (h : SafeLo zs need i fd lo) (hz : zs[i]? = some z) (hn : need ≤ cntI zs z.lo) (hc : fd = false ∨ z.lo < lo) : SafeLo zs need (i + 1) true z.lo :=
  ⟨fun hf => (by cases hf), fun _ => ⟨hn, fun x hx hxn => by
    rcases take_mem hz hx with hx | rfl
    · cases fd
      · have := h.1 rfl x hx; omega
      · have := (h.2 rfl).2 x hx hxn
        rcases hc with c | c
        · cases c
        · omega
    · exact Int.le_refl _⟩⟩
theorem SafeHi.old {zs : List RSpan} {need : Int} {i : Nat} {ft : Bool} {hi : Int} {z : RSpan} (h : SafeHi zs need i ft hi) (hz : zs[i]? = some z) (hc : cntI zs z.hi < need ∨ (ft = false ∧ z.hi ≤ hi)) : SafeHi zs need (i + 1) ft hi := by
  refine ⟨fun hf x hx => ?_, fun hf => ⟨(h.2 hf).1, fun x hx hn => ?_⟩⟩
  · rcases take_mem hz hx with hx | rfl
    · exact h.1 hf x hx
    · rcases hc with c | ⟨c, _⟩
      · exact c
      · rw [hf] at c; cases c
  · rcases take_mem hz hx with hx | rfl
    · exact (h.2 hf).2 x hx hn
    · rcases hc with c | ⟨_, c⟩
      · omega
      · exact c
theorem SafeHi.new {zs : List RSpan} {need : Int} {i : Nat} {ft : Bool} {hi : Int} {z : RSpan} (h : SafeHi zs need i ft hi) (hz : zs[i]? = some z) (hn : need ≤ cntI zs z.hi) (hc : ft = true ∨ hi < z.hi) : SafeHi zs need (i + 1) false z.hi :=
  ⟨fun hf => (by cases hf), fun _ => ⟨hn, fun x hx hxn => by
    rcases take_mem hz hx with hx | rfl
    · cases ft
      · have := (h.2 rfl).2 x hx hxn
        rcases hc with c | c
        · cases c
        · omega
      · have := h.1 rfl x hx; omega
    · exact Int.le_refl _⟩⟩
theorem safe_done {zs : List RSpan} {need : Int} (hn : 1 ≤ need) {fd ft : Bool} {lo hi : Int} (h1 : SafeLo zs need zs.length fd lo) (h2 : SafeHi zs need zs.length ft hi) : IsSafe zs need fd lo hi := by
  unfold SafeLo SafeHi at *
  rw [List.take_length] at h1 h2
  have L : ∀ x, need ≤ (cntS zs x : Int) → ∃ z ∈ zs, z.lo ≤ x ∧ need ≤ cntI zs z.lo := fun x hx => by
    obtain ⟨z, hz, a, b⟩ := lo_ge (zs := zs) x (by omega)
    exact ⟨z, hz, a, by unfold cntI; omega⟩
  have H : ∀ x, need ≤ (cntS zs x : Int) → ∃ z ∈ zs, x ≤ z.hi ∧ need ≤ cntI zs z.hi := fun x hx => by
    obtain ⟨z, hz, a, b⟩ := hi_ge (zs := zs) x (by omega)
    exact ⟨z, hz, a, by unfold cntI; omega⟩
  refine ⟨fun hf => ?_, fun hf x => ?_⟩
  · obtain ⟨a1, a2⟩ := h1.2 hf
    have a1' := a1
    unfold cntI at a1
    obtain ⟨y, hy, _, hy2⟩ := H lo a1
    cases ft
    · obtain ⟨b1, b2⟩ := h2.2 rfl
      refine ⟨a1, b1, fun x hx => ?_⟩
      obtain ⟨u, hu, u1, u2⟩ := L x hx
      obtain ⟨v, hv, v1, v2⟩ := H x hx
      have := a2 u hu u2
      have := b2 v hv v2
      omega
    · have := h2.1 rfl y hy; omega
  · rcases Int.lt_or_le (cntS zs x : Int) need with c | c
    · exact c
    · obtain ⟨u, hu, u1, u2⟩ := L x c
      have := h1.1 hf u hu; omega
set_option maxRecDepth 100000 in
set_option maxHeartbeats 8000000 in
theorem r1_Safe (A : Option Addr) (n c : Nat) (zs : List RSpan) (need : Int) (w : World) (h : IsRecs w RSpan.cells RSpan.ok 2 A n c zs) (hn1 : 1 ≤ need) (h0 : 0 < n) (h40 : n ≤ 40) :
    Calls Tryd.prog 13 #[.slice A n c, .int .i64 need] w fun e w' => ∃ (fd : Bool) (lo hi : Int), e = .returned (.tuple #[.agg #[.int .i64 lo, .int .i64 hi], .bool fd]) ∧ IsSafe zs need fd lo hi ∧ Below w.heap.size w w' := by
  have CH := Lib.hid (fun x w' (hb : Below w.heap.size w w') => r1_Has A n c zs x w' (h.below hb) h40)
  obtain ⟨l1, l2, l3, l4, l5⟩ := h
  unfold maxLen at l3
  obtain ⟨b, off, rfl, hb, hc⟩ := l5 h0
  have L1 := Lib.hid l1
  have HC := Lib.hid (show ∀ wr, Below w.heap.size w wr → ∀ k z, zs[k]? = some z → wr.cell? ⟨b, off + k * 2, none⟩ = some (.int .i64 z.lo) ∧ wr.cell? ⟨b, off + k * 2 + 1, none⟩ = some (.int .i64 z.hi) from fun wr hB k z hz =>
    ⟨(hB.cell (p := ⟨b, off + k * 2, none⟩) hb).trans (hc k z hz 0 _ rfl), (hB.cell (p := ⟨b, off + k * 2 + 1, none⟩) hb).trans (hc k z hz 1 _ rfl)⟩)
  have HDONE := Lib.hid (fun fd ft lo hi (q1 : SafeLo zs need n fd lo) (q2 : SafeHi zs need n ft hi) => safe_done (zs := zs) hn1 (by rw [l1]; exact q1) (by rw [l1]; exact q2))
  clear l1 l4 l5 hc hn1
  have hne : w.heap.size ≠ w.heap.size + 1 := by omega
  go_enter Tryd.func13, Tryd.ntmps13
  go_wp2_with fail
  obtain ⟨W0, hW0⟩ : ∃ W0, (w.alloc (.cells #[.int .i64 0, .int .i64 0] 25)).alloc (.cells #[.int .i64 0, .int .i64 0] 25) = W0 := ⟨_, rfl⟩
  rw [hW0]
  have HB0 := Lib.hid (show Below w.heap.size w W0 from by rw [← hW0]; exact ((Below.refl _ w).alloc (Nat.le_refl _) _).alloc (by simp) _)
  have HR0 := Lib.hid (show Blk W0 w.heap.size 25 #[.int .i64 0, .int .i64 0] from by rw [← hW0]; exact (Blk.new w _ _).alloc _)
  have HS0 := Lib.hid (show Blk W0 (w.heap.size + 1) 25 #[.int .i64 0, .int .i64 0] from by rw [← hW0]; simpa using Blk.new (w.alloc (.cells #[.int .i64 0, .int .i64 0] 25)) 25 #[.int .i64 0, .int .i64 0])
  clear hW0
  go_loopw [6, 8] (fun fv iv wr => ∃ (i : Nat) (fd : Bool) (lo : Int), iv = .int .i64 i ∧ fv = .bool fd ∧ i ≤ n ∧ SafeLo zs need i fd lo ∧ Blk wr w.heap.size 25 #[.int .i64 0, .int .i64 0] ∧ Blk wr (w.heap.size + 1) 25 #[.int .i64 lo, .int .i64 0] ∧ Below w.heap.size w wr) (fun _ iv _ => n - (intOf iv).toNat)
  case atStart => exact ⟨0, false, 0, rfl, rfl, by omega, ⟨fun _ x hx => by simp at hx, fun h => by cases h⟩, HR0.out, HS0.out, HB0.out⟩
  case round =>
    obtain ⟨i, fd, lo, rfl, rfl, hin, hL, hR, hS, hB⟩ := hrel
    have HL := Lib.hid hL
    have HR := Lib.hid hR
    have HS := Lib.hid hS
    have HB := Lib.hid hB
    have s0 : wr.cell? ⟨w.heap.size + 1, 0, none⟩ = some (.int .i64 lo) := hS.cell 0
    have s1 : wr.cell? ⟨w.heap.size + 1, 1, none⟩ = some (.int .i64 0) := hS.cell 1
    have fs0 := hS.fz 0
    have ltS : w.heap.size + 1 < wr.heap.size := hS.lt
    clear hL hR hS hB
    by_cases d1 : i < n
    · obtain ⟨z, hz⟩ : ∃ z, zs[i]? = some z := ⟨_, List.getElem?_eq_getElem (by rw [L1.out]; omega)⟩
      obtain ⟨x0, x1⟩ := HC.out wr HB.out i z hz
      have HZ := Lib.hid hz
      have k0 : (0 : Int) ≤ (i : Int) := by omega
      have k1 : (i : Int) < (n : Int) := by omega
      clear hz x1
      by_cases c1 : need ≤ cntI zs z.lo
      · have b1 : decide (need ≤ cntI zs z.lo) = true := by simp; exact c1
        by_cases c2 : fd = false ∨ z.lo < lo
        · have HN := Lib.hid (HL.out.new HZ.out c1 c2)
          cases fd
          · as_aux_lemma =>
              go_wp2_with fail
              go_quiet ((go_at_call 22; exact quiet_left (CH.out _ _ (below_drewN HB.out _))))
              go_wp2_with fail
              go_roundw
              case rel => exact ⟨i + 1, true, z.lo, by go_num, rfl, by omega, HN.out, (HR.out.drewN _).far (p := ⟨w.heap.size + 1, 0, none⟩) hne _, ((HS.out.drewN _).set 0 _).conv rfl, (below_drewN HB.out _).setCell (p := ⟨w.heap.size + 1, 0, none⟩) (by simp) _⟩
              case measure => simp [intOf]; omega
          · have c3 : z.lo < lo := by rcases c2 with h | h; cases h; exact h
            have b3 : decide (z.lo < lo) = true := by simp; exact c3
            as_aux_lemma =>
              go_wp2_with fail
              go_quiet ((go_at_call 22; exact quiet_left (CH.out _ _ (below_drewN HB.out _))))
              go_wp2_with fail
              go_roundw
              case rel => exact ⟨i + 1, true, z.lo, by go_num, rfl, by omega, HN.out, (HR.out.drewN _).far (p := ⟨w.heap.size + 1, 0, none⟩) hne _, ((HS.out.drewN _).set 0 _).conv rfl, (below_drewN HB.out _).setCell (p := ⟨w.heap.size + 1, 0, none⟩) (by simp) _⟩
              case measure => simp [intOf]; omega
        · cases fd
          · exact absurd (.inl rfl) c2
          · have c3 : ¬ z.lo < lo := fun h => c2 (.inr h)
            have b3 : decide (z.lo < lo) = false := by simp; omega
            have HN := Lib.hid (HL.out.old HZ.out (.inr ⟨rfl, by omega⟩))
            clear c2
            as_aux_lemma =>
              go_wp2_with fail
              go_quiet ((go_at_call 22; exact quiet_left (CH.out _ _ (below_drewN HB.out _))))
              go_wp2_with fail
              go_roundw
              case rel => exact ⟨i + 1, true, lo, by go_num, rfl, by omega, HN.out, HR.out.drewN _, HS.out.drewN _, below_drewN HB.out _⟩
              case measure => simp [intOf]; omega
      · have b1 : decide (need ≤ cntI zs z.lo) = false := by simp; omega
        have HN := Lib.hid (HL.out.old HZ.out (.inl (by omega)))
        as_aux_lemma =>
          go_wp2_with fail
          go_quiet ((go_at_call 22; exact quiet_left (CH.out _ _ (below_drewN HB.out _))))
          go_wp2_with fail
          go_roundw
          case rel => exact ⟨i + 1, fd, lo, by go_num, rfl, by omega, HN.out, HR.out.drewN _, HS.out.drewN _, below_drewN HB.out _⟩
          case measure => simp [intOf]; omega
    · obtain rfl : i = n := by omega
      go_wp2_with fail
      have hLo := Lib.hid HL.out
      clear HL d1
      go_loopw [9, 10] (fun fv jv ws => ∃ (j : Nat) (ft : Bool) (hi : Int), jv = .int .i64 j ∧ fv = .bool ft ∧ j ≤ i ∧ SafeHi zs need j ft hi ∧ Blk ws w.heap.size 25 #[.int .i64 0, .int .i64 0] ∧ Blk ws (w.heap.size + 1) 25 #[.int .i64 lo, .int .i64 hi] ∧ Below w.heap.size w ws) (fun _ jv _ => i - (intOf jv).toNat)
      case atStart => exact ⟨0, true, 0, rfl, rfl, by omega, ⟨fun _ x hx => by simp at hx, fun h => by cases h⟩, HR.out, HS.out, HB.out⟩
      case round =>
        clear HR HS HB s0 s1 fs0 ltS
        obtain ⟨j, ft, hi, rfl, rfl, hj, hL, hR, hS, hB⟩ := hrel
        have HL := Lib.hid hL
        have HR := Lib.hid hR
        have HS := Lib.hid hS
        have HB := Lib.hid hB
        have r0 : wr.cell? ⟨w.heap.size, 0, none⟩ = some (.int .i64 0) := hR.cell 0
        have r1 : wr.cell? ⟨w.heap.size, 1, none⟩ = some (.int .i64 0) := hR.cell 1
        have s0 : wr.cell? ⟨w.heap.size + 1, 0, none⟩ = some (.int .i64 lo) := hS.cell 0
        have s1 : wr.cell? ⟨w.heap.size + 1, 1, none⟩ = some (.int .i64 hi) := hS.cell 1
        have fs0 := hS.fz 1
        have fr0 := hR.fz 0
        have fr1 := hR.fz 1
        have ltS : w.heap.size + 1 < wr.heap.size := hS.lt
        have ltR : w.heap.size < wr.heap.size := by omega
        clear hL hR hS hB
        by_cases d1 : j < i
        · obtain ⟨z, hz⟩ : ∃ z, zs[j]? = some z := ⟨_, List.getElem?_eq_getElem (by rw [L1.out]; omega)⟩
          obtain ⟨x0, x1⟩ := HC.out wr HB.out j z hz
          have HZ := Lib.hid hz
          have k0 : (0 : Int) ≤ (j : Int) := by omega
          have k1 : (j : Int) < (i : Int) := by omega
          clear hz x0 r0 r1 fr0 fr1
          by_cases c1 : need ≤ cntI zs z.hi
          · have b1 : decide (need ≤ cntI zs z.hi) = true := by simp; exact c1
            by_cases c2 : ft = true ∨ hi < z.hi
            · have HN := Lib.hid (HL.out.new HZ.out c1 c2)
              cases ft
              · have c3 : hi < z.hi := by rcases c2 with h | h; cases h; exact h
                have b3 : decide (hi < z.hi) = true := by simp; exact c3
                as_aux_lemma =>
                  go_wp2_with fail
                  go_quiet ((go_at_call 22; exact quiet_left (CH.out _ _ (below_drewN HB.out _))))
                  go_wp2_with fail
                  go_roundw
                  case rel => exact ⟨j + 1, false, z.hi, by go_num, rfl, by omega, HN.out, (HR.out.drewN _).far (p := ⟨w.heap.size + 1, 1, none⟩) hne _, ((HS.out.drewN _).set 1 _).conv rfl, (below_drewN HB.out _).setCell (p := ⟨w.heap.size + 1, 1, none⟩) (by simp) _⟩
                  case measure => simp [intOf]; omega
              · as_aux_lemma =>
                  go_wp2_with fail
                  go_quiet ((go_at_call 22; exact quiet_left (CH.out _ _ (below_drewN HB.out _))))
                  go_wp2_with fail
                  go_roundw
                  case rel => exact ⟨j + 1, false, z.hi, by go_num, rfl, by omega, HN.out, (HR.out.drewN _).far (p := ⟨w.heap.size + 1, 1, none⟩) hne _, ((HS.out.drewN _).set 1 _).conv rfl, (below_drewN HB.out _).setCell (p := ⟨w.heap.size + 1, 1, none⟩) (by simp) _⟩
                  case measure => simp [intOf]; omega
            · cases ft
              · have c3 : ¬ hi < z.hi := fun h => c2 (.inr h)
                have b3 : decide (hi < z.hi) = false := by simp; omega
                have HN := Lib.hid (HL.out.old HZ.out (.inr ⟨rfl, by omega⟩))
                clear c2
                as_aux_lemma =>
                  go_wp2_with fail
                  go_quiet ((go_at_call 22; exact quiet_left (CH.out _ _ (below_drewN HB.out _))))
                  go_wp2_with fail
                  go_roundw
                  case rel => exact ⟨j + 1, false, hi, by go_num, rfl, by omega, HN.out, HR.out.drewN _, HS.out.drewN _, below_drewN HB.out _⟩
                  case measure => simp [intOf]; omega
              · exact absurd (.inl rfl) c2
          · have b1 : decide (need ≤ cntI zs z.hi) = false := by simp; omega
            have HN := Lib.hid (HL.out.old HZ.out (.inl (by omega)))
            as_aux_lemma =>
              go_wp2_with fail
              go_quiet ((go_at_call 22; exact quiet_left (CH.out _ _ (below_drewN HB.out _))))
              go_wp2_with fail
              go_roundw
              case rel => exact ⟨j + 1, ft, hi, by go_num, rfl, by omega, HN.out, HR.out.drewN _, HS.out.drewN _, below_drewN HB.out _⟩
              case measure => simp [intOf]; omega
        · obtain rfl : j = i := by omega
          have HF := Lib.hid (HDONE.out fd ft lo hi hLo.out HL.out)
          as_aux_lemma =>
            go_wp2_with fail
            (try go_region)
            (try go_wp2_with fail)
            refine bodyPost_ret (v := .tuple #[.agg #[.int .i64 lo, .int .i64 hi], .bool fd]) (by simp [results, Tryd.results13, go_sem, *]) rfl ⟨fd, lo, hi, rfl, HF.out, ?_⟩
            first | exact ((HB.out.setCell (p := ⟨w.heap.size, 0, none⟩) (Nat.le_refl _) _).setCell (p := ⟨w.heap.size, 1, none⟩) (Nat.le_refl _) _) | exact ((HB.out.setCell (p := ⟨w.heap.size, 0, none⟩) (Nat.le_refl _) _).setCell (p := ⟨w.heap.size, 1, none⟩) (Nat.le_refl _) _).drew
end Go.Proofs.YtfocabghbapncaaDoor
