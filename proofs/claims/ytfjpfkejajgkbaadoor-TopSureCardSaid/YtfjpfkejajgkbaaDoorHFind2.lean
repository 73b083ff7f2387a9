/- loops.Find, loops.Fault, bounds.Fit, walked. -/
import Derived.Test.YtfjpfkejajgkbaaDoorHFind
namespace Go.Proofs.YtfjpfkejajgkbaaDoor
open Go.RowKit
set_option linter.unusedVariables false
set_option linter.unusedSimpArgs false
set_option maxHeartbeats 2000000 in
theorem bounds_Fit (N : Nat) (A : Option Addr) (n c : Nat) (zs : List REdge) (w : World) (hz : IsRecs w REdge.cells REdge.ok 4 A n c zs) (h1 : 1 ≤ N) (h6 : N ≤ 6) (hn : n ≤ 40) (hl : EdgesOk N zs) :
    Calls Tryd.prog 51 #[.int .i64 N, .slice A n c] w fun e w' => ∃ ok : Bool, e = .returned (.bool ok) ∧ (ok = true → ¬ Sunk (Arc zs) N) ∧ (ok = false → Sunk (Arc zs) N) ∧ Below w.heap.size w w' := by
  have C := Lib.hid (bounds_closed N A n c zs w hz h1 h6 hn hl)
  clear hz hl
  go_enter Tryd.func51, Tryd.ntmps51
  go_wp2_with fail
  refine C.out.mono ?_
  rintro e w1 ⟨D, ok, rfl, hM, hok, hno, hb1⟩
  have HOK := Lib.hid hok
  have HNO := Lib.hid hno
  clear hM hok hno
  go_wp2_with fail
  go_ret
  exact ⟨ok, rfl, fun h => (HOK.out h).1, HNO.out, hb1⟩
theorem recs_take {E : Type} {w : World} {cells : E → List Value} {ok : E → Prop} {k : Nat} {A : Option Addr} {n c : Nat} {zs : List E} (h : IsRecs w cells ok k A n c zs) {m : Nat} (hm : m ≤ n) : IsRecs w cells ok k A m c (zs.take m) := by
  obtain ⟨h1, h2, h3, h4, h5⟩ := h
  refine ⟨by rw [List.length_take]; omega, by omega, h3, fun z hz => h4 z (List.mem_of_mem_take hz), fun hp => ?_⟩
  obtain ⟨b, off, hA, hb, hc⟩ := h5 (by omega)
  exact ⟨b, off, hA, hb, fun i z hz j u hu => hc i z (by rw [List.getElem?_take] at hz; split at hz; exact hz; cases hz) j u hu⟩
theorem edges_take {N : Nat} {zs : List REdge} (h : EdgesOk N zs) (m : Nat) : EdgesOk N (zs.take m) := fun e he => h e (List.mem_of_mem_take he)
/-- which edge is at fault. -/
def FaultS (N : Nat) (zs : List REdge) (v c : Int) : Prop :=
  (c = 0 ∧ ∃ i : Nat, i < zs.length ∧ v = i ∧ Sunk (Arc (zs.take (i + 1))) N ∧ ∀ j, j < i → ¬ Sunk (Arc (zs.take (j + 1))) N) ∨ (c = 5 ∧ v = 0 ∧ ∀ j, j < zs.length → ¬ Sunk (Arc (zs.take (j + 1))) N)
def FaultP (N : Int) (zs : List REdge) (w w' : World) (e : Ending) : Prop :=
  ∃ v c : Int, e = .returned (.tuple #[.int .i64 v, errV c]) ∧ Below w.heap.size w w' ∧ ((edgesC N zs ≠ 0 ∧ c = edgesC N zs ∧ v = 0) ∨ (edgesC N zs = 0 ∧ FaultS N.toNat zs v c))
set_option maxRecDepth 100000 in
set_option maxHeartbeats 4000000 in
theorem loops_Fault (N : Int) (A : Option Addr) (n c : Nat) (zs : List REdge) (w : World) (hz : IsRecs w REdge.cells REdge.ok 4 A n c zs) :
    Calls Tryd.prog 22 #[.int .i64 N, .slice A n c] w fun e w' => FaultP N zs w w' e := by
  have C := Lib.hid (bounds_Check N A n c zs w hz)
  by_cases c0 : edgesC N zs = 0
  · obtain ⟨c4, c5, c6, c7⟩ := edgesC_0 c0
    obtain ⟨N', rfl⟩ := Int.eq_ofNat_of_zero_le (show 0 ≤ N by omega)
    rw [c0] at C
    simp only [Int.toNat_natCast] at c7
    have C0 := Lib.hid c0
    have hln := hz.1
    have hm1 := hz.2.1
    have hm2 := hz.2.2.1
    unfold maxLen at hm2
    have HL := Lib.hid hln
    have CF := Lib.hid (fun m w' (hb : Below w.heap.size w w') (hm : m ≤ n) => bounds_Fit N' A m c (zs.take m) w' (recs_take (hz.below hb) hm) (by omega) (by omega) (by omega) (edges_take c7 m))
    clear hz c0 c7 hln
    go_enter Tryd.func22, Tryd.ntmps22
    go_wp2_with fail
    refine C.out.mono ?_
    rintro e w1 ⟨rfl, hb1⟩
    have HB1 := Lib.hid hb1
    clear hb1
    go_wp2_with fail
    go_loopw [16] (fun kv wr => ∃ k : Nat, kv = .int .i64 k ∧ k ≤ n ∧ (∀ j, j < k → ¬ Sunk (Arc (zs.take (j + 1))) N') ∧ Below w.heap.size w wr) (fun kv _ => n - (intOf kv).toNat)
    case atStart => exact ⟨0, rfl, by omega, fun j hj => absurd hj (by omega), HB1.out⟩
    case round =>
      obtain ⟨k, rfl, hk, hj, hB⟩ := hrel
      have HJ := Lib.hid hj
      have HB := Lib.hid hB
      have hzw := hB.size
      clear hj hB
      by_cases d1 : k < n
      · have C1 := Lib.hid (CF.out (k + 1) wr HB.out (by omega))
        have k0 : (0 : Int) ≤ (k : Int) + 1 := by omega
        have k1 : (k : Int) + 1 ≤ (c : Int) := by omega
        have k2 : ((k : Int) + 1).toNat = k + 1 := by omega
        go_wp2_with fail
        refine C1.out.mono ?_
        rintro e w2 ⟨ok, rfl, hok, hno, hb2⟩
        have HOK := Lib.hid hok
        have HNO := Lib.hid hno
        have HB2 := Lib.hid (HB.out.trans (hb2.mono HB.out.size))
        clear hok hno hb2
        cases ok
        · go_wp2_with fail
          go_ret2
          exact ⟨k, 0, rfl, HB2.out, .inr ⟨C0.out, .inl ⟨rfl, k, by have := HL.out; omega, rfl, HNO.out (by first | rfl | trivial), HJ.out⟩⟩⟩
        · go_wp2_with fail
          go_roundw
          case rel => exact ⟨k + 1, by go_num, by omega, fun j hj => by
            by_cases e : j = k
            · subst e; exact HOK.out (by first | rfl | trivial)
            · exact HJ.out j (by omega), HB2.out⟩
          case measure => simp [intOf]; omega
      · obtain rfl : k = n := by omega
        go_wp2_with fail
        go_ret2
        exact ⟨0, 5, rfl, HB.out, .inr ⟨C0.out, .inr ⟨rfl, rfl, by rw [HL.out]; exact HJ.out⟩⟩⟩
  · have C0 := Lib.hid c0
    rw [errV_ne c0] at C
    clear hz c0
    go_enter Tryd.func22, Tryd.ntmps22
    go_wp2_with fail
    refine C.out.mono ?_
    rintro e w1 ⟨rfl, hb1⟩
    go_wp2_with fail
    go_ret2
    exact ⟨0, edgesC N zs, by rw [errV_ne C0.out]; rfl, hb1, .inl ⟨C0.out, rfl, rfl⟩⟩
def ACells (zs : List RArc) : Array Value := (zs.flatMap RArc.cells).toArray
theorem arc_set (zs : List RArc) (i : Nat) (a : RArc) : ((((zs.flatMap RArc.cells).set (i * 4) (.int .i64 a.step)).set (i * 4 + 1) (.int .i64 a.fr)).set (i * 4 + 2) (.int .i64 a.to)).set (i * 4 + 3) (.int .i64 a.room) = (zs.set i a).flatMap RArc.cells := by
  induction zs generalizing i with
  | nil => rfl
  | cons z zs ih =>
    cases i with
    | zero => rfl
    | succ i =>
      have := ih i
      rw [show (i + 1) * 4 = i * 4 + 4 by omega, List.set_cons_succ, List.flatMap_cons, List.flatMap_cons, ← this]
      rfl
theorem Blk.aset {w : World} {g : Nat} {t : TypeId} {zs : List RArc} (h : Blk w g t (ACells zs)) (i : Nat) (a : RArc) :
    Blk ((((w.setCell ⟨g, i * 4, none⟩ (.int .i64 a.step)).setCell ⟨g, i * 4 + 1, none⟩ (.int .i64 a.fr)).setCell ⟨g, i * 4 + 2, none⟩ (.int .i64 a.to)).setCell ⟨g, i * 4 + 3, none⟩ (.int .i64 a.room)) g t (ACells (zs.set i a)) := by
  have := (((h.set (i * 4) (.int .i64 a.step)).set (i * 4 + 1) (.int .i64 a.fr)).set (i * 4 + 2) (.int .i64 a.to)).set (i * 4 + 3) (.int .i64 a.room)
  unfold ACells at this ⊢
  rw [List.setIfInBounds_toArray, List.setIfInBounds_toArray, List.setIfInBounds_toArray, List.setIfInBounds_toArray, arc_set] at this
  exact this
theorem Blk.aat {w : World} {g : Nat} {t : TypeId} {zs : List RArc} (h : Blk w g t (ACells zs)) {i : Nat} {a : RArc} (ha : zs[i]? = some a) : w.cell? ⟨g, i * 4, none⟩ = some (.int .i64 a.step) ∧ w.cell? ⟨g, i * 4 + 1, none⟩ = some (.int .i64 a.fr) ∧ w.cell? ⟨g, i * 4 + 2, none⟩ = some (.int .i64 a.to) ∧ w.cell? ⟨g, i * 4 + 3, none⟩ = some (.int .i64 a.room) := by
  have key : ∀ (j : Nat) u, (RArc.cells a)[j]? = some u → w.cell? ⟨g, i * 4 + j, none⟩ = some u := fun j u hu => by
    have := flat_get RArc.cells 4 (fun _ => rfl) zs i j a u ha hu
    rw [h.cell]
    unfold ACells
    rw [List.getElem?_toArray]
    exact this
  exact ⟨key 0 _ rfl, key 1 _ rfl, key 2 _ rfl, key 3 _ rfl⟩
theorem made_al (n : Nat) : (madeCells #[.int .i64 0, .int .i64 0, .int .i64 0, .int .i64 0] (n * 4)).toList = (List.replicate n (⟨0, 0, 0, 0⟩ : RArc)).flatMap RArc.cells := by
  induction n with
  | zero => simp [madeCells]
  | succ n ih =>
    rw [List.replicate_succ', List.flatMap_append, ← ih]
    unfold madeCells
    rw [show (n + 1) * 4 = n * 4 + 1 + 1 + 1 + 1 by omega, Array.range_succ, Array.range_succ, Array.range_succ, Array.range_succ]
    have h1 : n * 4 % 4 = 0 := by omega
    have h2 : (n * 4 + 1) % 4 = 1 := by omega
    have h3 : (n * 4 + 1 + 1) % 4 = 2 := by omega
    have h4 : (n * 4 + 1 + 1 + 1) % 4 = 3 := by omega
    simp [RArc.cells, h1, h2, h3, h4]
theorem listF_rep {α : Type} (n : Nat) (a : α) : List.replicate n a = listF n (fun _ => a) := by
  apply List.ext_getElem?
  intro j
  rw [List.getElem?_replicate]
  by_cases hj : j < n
  · rw [if_pos hj, listF_at hj]
  · rw [if_neg hj, List.getElem?_eq_none (by rw [listF_len]; omega)]
theorem make_arcs (N : Nat) (h : N ≤ 1000) (w : World) : (Instr.makeSlice 116 (.int .i64 (N : Int)) (.int .i64 (N : Int))).run Tryd.prog w = .ok (.slice (some ⟨w.heap.size, 0, none⟩) N N) (w.alloc (.cells (ACells (listF N (fun _ => ⟨0, 0, 0, 0⟩))) 119)) := by
  obtain ⟨i0, hi, hz0, hz1, hz2⟩ := info_parts infoArc
  have := run_make (P := Tryd.prog) w 116 119 i0 _ Tryd.underlying116 hi hz0 .i64 .i64 N N (by omega) (by omega) (by rw [hz2]; omega) (by omega)
  rw [hz1] at this
  simp only [Int.toNat_natCast] at this
  rw [← listF_rep]
  unfold ACells
  rw [← made_al]
  exact this
theorem recs_keep {E : Type} {w w' : World} {cells : E → List Value} {ok : E → Prop} {k b off n c : Nat} {zs : List E} (h : IsRecs w cells ok k (some ⟨b, off, none⟩) n c zs) (hs : w.heap.size ≤ w'.heap.size) (hk : b < w.heap.size → w'.heap[b]? = w.heap[b]?) : IsRecs w' cells ok k (some ⟨b, off, none⟩) n c zs := by
  obtain ⟨h1, h2, h3, h4, h5⟩ := h
  refine ⟨h1, h2, h3, h4, fun hn => ?_⟩
  obtain ⟨b', off', e, hb, hc⟩ := h5 hn
  cases e
  exact ⟨b, off, rfl, by omega, fun i z hi j u hu => (World.cell?_of_block (w := w) (hk hb)).trans (hc i z hi j u hu)⟩
theorem ford_store {w0 w3 : World} {g1 g2 ab aoff n2 c2 m t : Nat} {Ti Ta : TypeId} {R : Nat → Int} {B : Nat → RArc} {L : List RArc} (v st f' t' rm : Int) {a : RArc} (hae : (⟨st, f', t', rm⟩ : RArc) = a)
    (h1 : Blk w3 g1 Ti (ICells (listF m R))) (h2 : Blk w3 g2 Ta (ACells (listF m B))) (h3 : IsRecs w3 RArc.cells RArc.ok 4 (some ⟨ab, aoff, none⟩) n2 c2 L) (h4 : Below w0.heap.size w0 w3) (g12 : g1 ≠ g2) (nb1 : ab ≠ g1) (nb2 : ab ≠ g2) (hg1 : w0.heap.size ≤ g1) (hg2 : w0.heap.size ≤ g2) :
    Blk (((((w3.setCell ⟨g1, t, none⟩ (.int .i64 v)).setCell ⟨g2, t * 4, none⟩ (.int .i64 st)).setCell ⟨g2, t * 4 + 1, none⟩ (.int .i64 f')).setCell ⟨g2, t * 4 + 2, none⟩ (.int .i64 t')).setCell ⟨g2, t * 4 + 3, none⟩ (.int .i64 rm)) g1 Ti (ICells (listF m (upF R t v))) ∧
    Blk (((((w3.setCell ⟨g1, t, none⟩ (.int .i64 v)).setCell ⟨g2, t * 4, none⟩ (.int .i64 st)).setCell ⟨g2, t * 4 + 1, none⟩ (.int .i64 f')).setCell ⟨g2, t * 4 + 2, none⟩ (.int .i64 t')).setCell ⟨g2, t * 4 + 3, none⟩ (.int .i64 rm)) g2 Ta (ACells (listF m (upF B t a))) ∧
    IsRecs (((((w3.setCell ⟨g1, t, none⟩ (.int .i64 v)).setCell ⟨g2, t * 4, none⟩ (.int .i64 st)).setCell ⟨g2, t * 4 + 1, none⟩ (.int .i64 f')).setCell ⟨g2, t * 4 + 2, none⟩ (.int .i64 t')).setCell ⟨g2, t * 4 + 3, none⟩ (.int .i64 rm)) RArc.cells RArc.ok 4 (some ⟨ab, aoff, none⟩) n2 c2 L ∧
    Below w0.heap.size w0 (((((w3.setCell ⟨g1, t, none⟩ (.int .i64 v)).setCell ⟨g2, t * 4, none⟩ (.int .i64 st)).setCell ⟨g2, t * 4 + 1, none⟩ (.int .i64 f')).setCell ⟨g2, t * 4 + 2, none⟩ (.int .i64 t')).setCell ⟨g2, t * 4 + 3, none⟩ (.int .i64 rm)) := by
  subst hae
  have e1 := h1.iset t v
  rw [listF_set] at e1
  have e2 := (h2.far (p := ⟨g1, t, none⟩) (fun q => g12 q.symm) (.int .i64 v)).aset t ⟨st, f', t', rm⟩
  rw [listF_set] at e2
  have b0 := h4.setCell (p := ⟨g1, t, none⟩) hg1 (.int .i64 v)
  have b1 := b0.setCell (p := ⟨g2, t * 4, none⟩) hg2 (.int .i64 st)
  have b2 := b1.setCell (p := ⟨g2, t * 4 + 1, none⟩) hg2 (.int .i64 f')
  have b3 := b2.setCell (p := ⟨g2, t * 4 + 2, none⟩) hg2 (.int .i64 t')
  have b4 := b3.setCell (p := ⟨g2, t * 4 + 3, none⟩) hg2 (.int .i64 rm)
  have d1 := e1.far (p := ⟨g2, t * 4, none⟩) g12 (.int .i64 st)
  have d2 := d1.far (p := ⟨g2, t * 4 + 1, none⟩) g12 (.int .i64 f')
  have d3 := d2.far (p := ⟨g2, t * 4 + 2, none⟩) g12 (.int .i64 t')
  have d4 := d3.far (p := ⟨g2, t * 4 + 3, none⟩) g12 (.int .i64 rm)
  refine ⟨d4, e2, recs_keep h3 (by simp) (fun _ => ?_), b4⟩
  rw [Below.heap_setCell _ ⟨g2, t * 4 + 3, none⟩ _ ab nb2, Below.heap_setCell _ ⟨g2, t * 4 + 2, none⟩ _ ab nb2, Below.heap_setCell _ ⟨g2, t * 4 + 1, none⟩ _ ab nb2, Below.heap_setCell _ ⟨g2, t * 4, none⟩ _ ab nb2, Below.heap_setCell _ ⟨g1, t, none⟩ _ ab nb1]
theorem cell_past {w : World} {p q : Addr} {u : Value} {x : Option Value} (hne : p ≠ q) (h : w.cell? q = x) : (w.setCell p u).cell? q = x := (World.cell?_setCell_other _ _ _ _ hne).trans h
theorem wp_gen {P : Program} {s : Code} {Q : Exit → Act → World → Prop} {a : Act} {w : World} (h : ∀ Q' : Exit → Act → World → Prop, (∀ e a' w', Q e a' w' → Q' e a' w') → s.wp P Q' a w) : s.wp P Q a w := h Q (fun _ _ _ q => q)
def lenOfV : Value → Nat
  | .slice _ n _ => n
  | _ => 0
theorem own_slice0 {w : World} {B k n : Nat} {T : TypeId} {v : Value} {xs : List Value} (h : w.ownsRow B T k v n xs) : ∃ A c, v = .slice A n c := by
  rcases h.2 with ⟨rfl, hn⟩ | ⟨g, cap, cur, rfl, _⟩
  · exact ⟨none, 0, by rw [hn]⟩
  · exact ⟨_, _, rfl⟩
theorem map_flat (xs : List Int) : xs.flatMap intCells = xs.map (Value.int .i64) := by
  induction xs with
  | nil => rfl
  | cons a l ih => rw [List.flatMap_cons, ih]; rfl
theorem own_RC {w : World} {B : Nat} {T : TypeId} {v : Value} {n : Nat} {xs : List Int} (h : w.ownsRow B T 1 v n (xs.flatMap intCells)) (hn : xs.length = n) (h1 : 1 ≤ n) : ∃ g cap rest, v = .slice (some ⟨g, 0, none⟩) n cap ∧ B ≤ g ∧ n ≤ cap ∧ cap ≤ maxLen ∧ Blk w g T (RC xs rest) := by
  rcases h.2 with ⟨_, h⟩ | ⟨g, cap, cur, h, hb, hg, hn', hm, hs, ht⟩
  · omega
  · refine ⟨g, cap, cur.toList.drop n, h, hb, hn', hm, ?_⟩
    have e : RC xs (cur.toList.drop n) = cur := by
      apply Array.ext'
      unfold RC
      rw [List.toList_toArray, ← map_flat, ← ht, Nat.mul_one, List.take_append_drop]
    unfold Blk
    rw [e]
    exact hg
/-- what is known after r rounds. -/
def FordS (n : Nat) (L : List RArc) (r S : Nat) (R : Nat → Int) (B : Nat → RArc) (U : Nat → Nat) (last : Int) : Prop :=
  if r = 0 then Ford n L 1 0 0 R B U (-1) else Ford n L r L.length S R B U last
theorem FordS.round {n : Nat} {L : List RArc} {r S : Nat} {R : Nat → Int} {B : Nat → RArc} {U : Nat → Nat} {last : Int} (h : FordS n L r S R B U last) (hS : r = 0 → S = 0) : Ford n L (r + 1) 0 S R B U (-1) := by
  unfold FordS at h
  split at h
  · rename_i e
    subst e
    rw [hS rfl]
    exact h
  · exact h.round
theorem ring_steps (B : Nat → RArc) (y p : Nat) : (ringL B y p).map RArc.step = listF p (fun j => (B (itr (frB B) (p - 1 - j) y)).step) := by
  rw [listF_rev p (fun j => (B (itr (frB B) j y)).step)]
  unfold ringL listF
  rw [List.map_reverse, List.map_map]
  rfl
/-- what finding a loop answers. -/
def FindP (N : Int) (zs : List REdge) (w w' : World) (e : Ending) : Prop :=
  ∃ (A : Option Addr) (n c : Nat) (k : Int), e = .returned (.tuple #[.slice A n c, errV k]) ∧ Below w.heap.size w w' ∧ ((edgesC N zs ≠ 0 ∧ k = edgesC N zs) ∨ (edgesC N zs = 0 ∧ ∃ loop, IsInts w' A n c loop ∧ FindS N.toNat zs k loop))
set_option maxRecDepth 100000 in
set_option maxHeartbeats 8000000 in
theorem loops_Find (N : Int) (A : Option Addr) (n c : Nat) (zs : List REdge) (w : World) (hz : IsRecs w REdge.cells REdge.ok 4 A n c zs) :
    Calls Tryd.prog 21 #[.int .i64 N, .slice A n c] w fun e w' => FindP N zs w w' e := by
  obtain ⟨i0, hi, hz0, hz1, hz2⟩ := info_parts infoI
  have C := Lib.hid (bounds_Check N A n c zs w hz)
  by_cases c0 : edgesC N zs = 0
  · obtain ⟨c4, c5, c6, c7⟩ := edgesC_0 c0
    obtain ⟨N', rfl⟩ := Int.eq_ofNat_of_zero_le (show 0 ≤ N by omega)
    rw [c0] at C
    simp only [Int.toNat_natCast] at c7
    have C0 := Lib.hid c0
    have hln := hz.1
    have HL := Lib.hid hln
    have C7 := Lib.hid c7
    have hn40 : n ≤ 40 := by omega
    have HAO := Lib.hid (arcs_ok c7)
    have CA := Lib.hid (fun w' (hb : Below w.heap.size w w') => loops_arcs N' A n c zs w' (hz.below hb) c7 (by omega) hn40)
    have hLn : (arcsL zs).length = 2 * n := by rw [arcsL_len]; omega
    have HLN := Lib.hid hLn
    clear hz c0 c7 hln hLn
    have mk1 := run_make_row' (P := Tryd.prog) 22 3 (.int .i64 0) 8 Tryd.underlying22 infoI rfl .i64 .i64 N' (by omega) (by omega)
    have mk2 := make_arcs N' (by omega)
    rw [made_i, listF_rep] at mk1
    go_enter Tryd.func21, Tryd.ntmps21
    go_wp2_with fail
    refine C.out.mono ?_
    rintro e w1 ⟨rfl, hb1⟩
    have HB1 := Lib.hid hb1
    clear hb1
    go_upto_region 4 with fail
    go_cut [7, 8] (fun u v wx => ∃ g1 g2, u = .slice (some ⟨g1, 0, none⟩) N' N' ∧ v = .slice (some ⟨g2, 0, none⟩) N' N' ∧ Blk wx g1 3 (ICells (listF N' (fun _ => 0))) ∧ Blk wx g2 119 (ACells (listF N' (fun _ => ⟨0, 0, 0, 0⟩))) ∧ w1.heap.size ≤ g1 ∧ w1.heap.size ≤ g2 ∧ Below w1.heap.size w1 wx)
    case first =>
      go_region
      all_goals
        go_wp2_with fail
        go_meet
        case rel =>
          refine ⟨_, _, rfl, rfl, ?_, ?_, by omega, by omega, (by repeat (first | with_reducible exact Below.refl _ _ | (with_reducible refine Below.alloc ?_ (by first | omega | (simp; done) | (simp; omega)) _) | (with_reducible refine Below.setCell ?_ (by first | omega | (simp; done) | (simp; omega)) _) | (with_reducible refine Below.drew ?_) | (with_reducible refine below_drewN ?_ _) | (with_reducible assumption) | (with_reducible refine bel_step (by with_reducible assumption) ?_ (by first | omega | (simp; done) | (simp; omega)))))⟩
          · first
            | exact ((Blk.new w1 _ _).alloc _).drewN 1
            | exact (Blk.newAt2 w1 _ _ _).drewN 1
          · first
            | exact ((Blk.new w1 _ _).alloc _).drewN 1
            | exact (Blk.newAt2 w1 _ _ _).drewN 1
    case rest =>
      obtain ⟨g1, g2, rfl, rfl, hK1, hK2, hg1, hg2, hbc⟩ := hcut
      have HK1 := Lib.hid hK1
      have HK2 := Lib.hid hK2
      have HBC := Lib.hid (HB1.out.trans (hbc.mono HB1.out.size))
      have hg12 : g1 ≠ g2 := blk_type_ne hK1 hK2 (by decide)
      have hg1' : w.heap.size ≤ g1 := Nat.le_trans HB1.out.size hg1
      have hg2' : w.heap.size ≤ g2 := Nat.le_trans HB1.out.size hg2
      obtain ⟨L, hL⟩ : ∃ L, arcsL zs = L := ⟨_, rfl⟩
      have HLL := Lib.hid hL
      rw [hL] at CA HAO HLN
      clear hK1 hK2 hbc mk1 mk2 HB1 hL hg1 hg2
      go_wp2_with fail
      go_loopw [9, 25] (fun lv rv wx => ∃ (r S : Nat) (R : Nat → Int) (B : Nat → RArc) (U : Nat → Nat) (last : Int), rv = .int .i64 r ∧ r ≤ N' ∧ lv = .int .i64 last ∧ FordS N' L r S R B U last ∧ S ≤ 80 * r ∧ Blk wx g1 3 (ICells (listF N' R)) ∧ Blk wx g2 119 (ACells (listF N' B)) ∧ Below w.heap.size w wx) (fun _ rv _ => N' - (intOf rv).toNat)
      case atStart => exact ⟨0, 0, _, _, fun _ => 0, -1, rfl, by omega, rfl, by unfold FordS; rw [if_pos rfl]; exact Ford.init _ _ _ _ (fun v _ => rfl), by omega, HK1.out, HK2.out, HBC.out⟩
      case round =>
        clear HK1 HK2 HBC
        obtain ⟨r, S, R, B, U, last, rfl, hr, rfl, hF, hS, hK1, hK2, hB⟩ := hrel
        have HF := Lib.hid hF
        have HK1 := Lib.hid hK1
        have HK2 := Lib.hid hK2
        have HB := Lib.hid hB
        have hzw := hB.size
        clear hF hK1 hK2 hB
        by_cases d1 : r < N'
        · have HF0 := Lib.hid (HF.out.round (fun e => by omega))
          go_wp2_with fail
          refine (CA.out _ HB.out).mono ?_
          rintro e w2 ⟨A2, n2, c2, rfl, hr2, hb2, hlb⟩
          have HB2 := Lib.hid (HB.out.trans (hb2.mono HB.out.size))
          have HK1' := Lib.hid HK1.out
          have HK2' := Lib.hid HK2.out
          have HK1 := Lib.hid (HK1.out.below hb2 HK1.out.lt)
          have HK2 := Lib.hid (HK2.out.below hb2 HK2.out.lt)
          have HR2 := Lib.hid hr2
          have hn2 : n2 = 2 * n := by have h1 := hr2.1; have h2 := HLN.out; omega
          have hc2 := hr2.2.1
          have hc3 := hr2.2.2.1
          unfold maxLen at hc3
          have HN2 := Lib.hid hn2
          have hn80 : n2 ≤ 80 := by omega
          have HNE := Lib.hid (show ∀ b off, A2 = some ⟨b, off, none⟩ → b ≠ g1 ∧ b ≠ g2 from fun b off e => by have := hlb b off e; have h1 := HK1'.out.lt; have h2 := HK2'.out.lt; omega)
          clear hb2 hr2 hn2 hlb HK1' HK2'
          go_wp2_with fail
          obtain ⟨wo, rfl⟩ : ∃ wo : World, wo = w2 := ⟨_, rfl⟩
          go_loopw [9, 30] (fun lv kv wx => ∃ (k S' : Nat) (R : Nat → Int) (B : Nat → RArc) (U : Nat → Nat) (last : Int), kv = .int .i64 k ∧ k ≤ n2 ∧ lv = .int .i64 last ∧ Ford N' L (r + 1) k S' R B U last ∧ S' ≤ 80 * r + k ∧ Blk wx g1 3 (ICells (listF N' R)) ∧ Blk wx g2 119 (ACells (listF N' B)) ∧ IsRecs wx RArc.cells RArc.ok 4 A2 n2 c2 L ∧ Below w.heap.size w wx ∧ (∀ b off, A2 = some ⟨b, off, none⟩ → b ≠ g1 ∧ b ≠ g2)) (fun _ kv _ => n2 - (intOf kv).toNat)
          case atStart => exact ⟨0, S, R, B, U, -1, rfl, by omega, rfl, HF0.out, by omega, HK1.out, HK2.out, HR2.out, HB2.out, HNE.out⟩
          case round =>
            clear HK1 HK2 HR2 HB2 HF HB HF0
            obtain ⟨k, S', R, B, U, last, rfl, hk, rfl, hF, hS', hK1, hK2, hR, hB, hne⟩ := hrel
            have HF := Lib.hid hF
            have HK1 := Lib.hid hK1
            have HK2 := Lib.hid hK2
            have HB := Lib.hid hB
            have HR := Lib.hid hR
            have hzx := hB.size
            have HNE := Lib.hid hne
            by_cases d2 : k < n2
            · obtain ⟨a, hak⟩ : ∃ a, L[k]? = some a := ⟨_, List.getElem?_eq_getElem (by have h1 := HLN.out; have h2 := HN2.out; omega)⟩
              have hao := HAO.out a (List.mem_of_getElem? hak)
              obtain ⟨ab, aoff, rfl, u1, u2⟩ := hR.2.2.2.2 (by omega)
              obtain ⟨nb1, nb2⟩ := hne ab aoff rfl
              have y0 : wr.cell? ⟨ab, aoff + k * 4, none⟩ = some (.int .i64 a.step) := u2 k a hak 0 _ rfl
              have y1 : wr.cell? ⟨ab, aoff + k * 4 + 1, none⟩ = some (.int .i64 a.fr) := u2 k a hak 1 _ rfl
              have y2 : wr.cell? ⟨ab, aoff + k * 4 + 2, none⟩ = some (.int .i64 a.to) := u2 k a hak 2 _ rfl
              have y3 : wr.cell? ⟨ab, aoff + k * 4 + 3, none⟩ = some (.int .i64 a.room) := u2 k a hak 3 _ rfl
              have hbf := hF.bd a.fr.toNat (by omega)
              have hbt := hF.bd a.to.toNat (by omega)
              have HSK := Lib.hid (fun h => hF.skip hak h)
              have HTK := Lib.hid (fun h => hF.take HAO.out (by omega) hak h)
              obtain ⟨f, hf⟩ : ∃ f : Nat, a.fr.toNat = f := ⟨_, rfl⟩
              obtain ⟨t, ht⟩ : ∃ t : Nat, a.to.toNat = t := ⟨_, rfl⟩
              rw [hf] at hbf HSK HTK
              rw [ht] at hbt HSK HTK
              have hf' : a.fr = (f : Int) := by omega
              have ht' : a.to = (t : Int) := by omega
              have hft : f ≠ t := by have := hao.2.2.2.2.1; omega
              have hfn : f < N' := by omega
              have htn : t < N' := by omega
              have z1 := hK1.iat (listF_at hfn)
              have z2 := hK1.iat (listF_at htn)
              obtain ⟨vf, hvf⟩ : ∃ v, R f = v := ⟨_, rfl⟩
              obtain ⟨vt, hvt⟩ : ∃ v, R t = v := ⟨_, rfl⟩
              have HVF := Lib.hid hvf
              have HVT := Lib.hid hvt
              rw [hvf] at z1 hbf HSK HTK
              rw [hvt] at z2 hbt HSK HTK
              obtain ⟨st, hst⟩ : ∃ s, a.step = s := ⟨_, rfl⟩
              obtain ⟨rm, hrm⟩ : ∃ s, a.room = s := ⟨_, rfl⟩
              rw [hst] at y0
              rw [hf'] at y1
              rw [ht'] at y2 HTK
              rw [hrm] at y3 HSK HTK
              have hr1 : -1000000000000 ≤ rm := by omega
              have hr2 : rm ≤ 1000000000000 := by omega
              have hr3 : -1000000000000000 ≤ vf := by omega
              have hr4 : vf ≤ 0 := by omega
              have e1 := IntWalk.i64_in (vf + rm) (by omega)
              have g1l := hK1.lt
              have g2l := hK2.lt
              obtain ⟨b0, b1, b2, b3⟩ := hK2.aat (listF_at htn)
              have f1 := fun o => hK1.fz o
              have f2 := fun o => hK2.fz o
              have k0 : (0 : Int) ≤ (k : Int) := by omega
              have k1 : (k : Int) < (n2 : Int) := by omega
              have k2 : (0 : Int) ≤ (f : Int) := by omega
              have k3 : (f : Int) < (N' : Int) := by omega
              have k4 : (0 : Int) ≤ (t : Int) := by omega
              have k5 : (t : Int) < (N' : Int) := by omega
              have hae : (⟨st, (f : Int), (t : Int), rm⟩ : RArc) = a := by rw [← hst, ← hf', ← ht', ← hrm]
              have HAE := Lib.hid hae
              rcases Int.lt_or_le (vf + rm) vt with q | q
              · as_aux_lemma =>
                  have HX := Lib.hid (HTK.out q)
                  clear hF hK1 hK2 hR hB hne hak hao hf ht hf' ht' hvf hvt hst hrm hae u2 HSK HTK hbf hbt
                  go_wp2_with fail
                  go_region
                  go_upto_region 13 with fail
                  have V1 := Lib.hid (show Blk (wr.alloc (.cells #[.int .i64 st, .int .i64 f, .int .i64 t, .int .i64 rm] 119)).drew g1 3 (ICells (listF N' R)) from (HK1.out.alloc _).drewN 1)
                  have V2 := Lib.hid (show Blk (wr.alloc (.cells #[.int .i64 st, .int .i64 f, .int .i64 t, .int .i64 rm] 119)).drew g2 119 (ACells (listF N' B)) from (HK2.out.alloc _).drewN 1)
                  have V3 := Lib.hid (show IsRecs (wr.alloc (.cells #[.int .i64 st, .int .i64 f, .int .i64 t, .int .i64 rm] 119)).drew RArc.cells RArc.ok 4 (some ⟨ab, aoff, none⟩) n2 c2 L from HR.out.below (((Below.refl _ _).alloc (Nat.le_refl _) _).drew))
                  have V4 := Lib.hid (show Below w.heap.size w (wr.alloc (.cells #[.int .i64 st, .int .i64 f, .int .i64 t, .int .i64 rm] 119)).drew from (HB.out.alloc hzx _).drew)
                  have V5 := Lib.hid (show Blk (wr.alloc (.cells #[.int .i64 st, .int .i64 f, .int .i64 t, .int .i64 rm] 119)).drew wr.heap.size 119 #[.int .i64 st, .int .i64 f, .int .i64 t, .int .i64 rm] from (Blk.new wr _ _).drew)
                  obtain ⟨w3, hw3⟩ : ∃ w3, (wr.alloc (.cells #[.int .i64 st, .int .i64 f, .int .i64 t, .int .i64 rm] 119)).drew = w3 := ⟨_, rfl⟩
                  rw [hw3] at V1 V2 V3 V4 V5 ⊢
                  have VF := Lib.hid (show R f = vf ∧ R t = vt from ⟨HVF.out, HVT.out⟩)
                  clear hw3 y0 y1 y2 y3 z1 z2 b0 b1 b2 b3 f1 f2 g1l g2l
                  have z1 := V1.out.iat (listF_at hfn)
                  have z2 := V1.out.iat (listF_at htn)
                  rw [VF.out.1] at z1
                  rw [VF.out.2] at z2
                  obtain ⟨b0, b1, b2, b3⟩ := V2.out.aat (listF_at htn)
                  have f1 := fun o => V1.out.fz o
                  have f2 := fun o => V2.out.fz o
                  have g1l := V1.out.lt
                  have g2l := V2.out.lt
                  have y0 := V5.out.cell 0
                  have y1 := V5.out.cell 1
                  have y2 := V5.out.cell 2
                  have y3 := V5.out.cell 3
                  simp at y0 y1 y2 y3
                  have nn1 : wr.heap.size ≠ g1 := by have := HK1.out.lt; omega
                  have nn2 : wr.heap.size ≠ g2 := by have := HK2.out.lt; omega
                  have nn3 : g2 ≠ g1 := fun q => hg12 q.symm
                  have nn4 : g1 ≠ wr.heap.size := fun q => nn1 q.symm
                  have nn5 : g2 ≠ wr.heap.size := fun q => nn2 q.symm
                  have vbl := V5.out.lt
                  have WW := Lib.hid (ford_store (t := t) (vf + rm) st (f : Int) (t : Int) rm HAE.out V1.out V2.out V3.out V4.out hg12 nb1 nb2 hg1' hg2')
                  have N0 : ∀ o : Nat, (⟨g1, t, none⟩ : Addr) ≠ ⟨wr.heap.size, o, none⟩ := fun o h => nn4 (congrArg Addr.block h)
                  have NF : (⟨g1, t, none⟩ : Addr) ≠ ⟨g1, f, none⟩ := fun h => hft (congrArg Addr.off h).symm
                  have N2 : ∀ k o : Nat, (⟨g2, k, none⟩ : Addr) ≠ ⟨wr.heap.size, o, none⟩ := fun k o h => nn5 (congrArg Addr.block h)
                  have N3 : ∀ k : Nat, (⟨g2, k, none⟩ : Addr) ≠ ⟨g1, f, none⟩ := fun k h => nn3 (congrArg Addr.block h)
                  refine wp_gen (fun Q hQ => ?_)
                  have HQ := Lib.hid hQ
                  clear hQ
                  go_region_held3 (fun w' => w'.cell? ⟨wr.heap.size, 0, none⟩ = some (.int .i64 st) ∧ w'.cell? ⟨wr.heap.size, 1, none⟩ = some (.int .i64 f) ∧ w'.cell? ⟨wr.heap.size, 2, none⟩ = some (.int .i64 t) ∧ w'.cell? ⟨wr.heap.size, 3, none⟩ = some (.int .i64 rm) ∧ w'.cell? ⟨g1, f, none⟩ = some (.int .i64 vf)) ((go_split_ands; refine ⟨?_, ?_, ?_, ?_, ?_⟩ <;> rw [World.cell?_drew] <;> ((repeat (first | with_reducible apply cell_past (N0 _) | with_reducible apply cell_past NF | with_reducible apply cell_past (N2 _ _) | with_reducible apply cell_past (N3 _))); with_reducible assumption))) (fail)
                  go_wp2_with fail
                  refine HQ.out _ _ _ ?_
                  go_wp2_with fail
                  go_roundw
                  case rel => exact ⟨k + 1, S' + 1, _, _, _, t, by go_num, by omega, rfl, HX.out, by omega, WW.out.1.drewN 1, WW.out.2.1.drewN 1, WW.out.2.2.1.below ((Below.refl _ _).drew), WW.out.2.2.2.drew, HNE.out⟩
                  case measure => simp [intOf]; omega
              · as_aux_lemma =>
                  have HX := Lib.hid (HSK.out q)
                  clear hF hK1 hK2 hR hB hne hak hao hf ht hf' ht' hvf hvt hst hrm hae u2 HSK HTK hbf hbt
                  go_wp2_with fail
                  go_region
                  go_wp2_with fail
                  go_roundw
                  case rel => exact ⟨k + 1, S' + 1, R, B, U, last, by go_num, by omega, rfl, HX.out, by omega, (HK1.out.alloc _).drewN 1, (HK2.out.alloc _).drewN 1, (HR.out.below (((Below.refl _ _).alloc (Nat.le_refl _) _).drew)), (HB.out.alloc hzx _).drew, HNE.out⟩
                  case measure => simp [intOf]; omega
            · have hkk : k = L.length := by have h1 := HLN.out; have h2 := HN2.out; omega
              have HX := Lib.hid (show FordS N' L (r + 1) S' R B U last by
                have h := HF.out
                rw [hkk] at h
                unfold FordS
                rw [if_neg (by omega)]
                exact h)
              clear hF hK1 hK2 hR hB hne hkk
              go_wp2_with fail
              go_roundw
              case rel => exact ⟨r + 1, S', R, B, U, last, by go_num, by omega, rfl, HX.out, by omega, HK1.out, HK2.out, HB.out⟩
              case measure => simp [intOf]; omega
        · obtain rfl : r = N' := by omega
          have hF := HF.out
          unfold FordS at hF
          rw [if_neg (by omega)] at hF
          rcases hF.last with ⟨hl1, hl2⟩ | ⟨v, hv, hl1, hl2⟩
          · subst hl1
            have HNS := Lib.hid (flat_fit C7.out (fun a ha => by rw [HLL.out] at ha; exact hF.flat HAO.out a ha))
            clear hF hl2
            go_wp2_with fail
            go_ret2
            exact ⟨none, 0, 0, 5, rfl, HB.out, .inr ⟨C0.out, [], ints_nil _, .inl ⟨rfl, HNS.out, rfl⟩⟩⟩
          · subst hl1
            obtain ⟨p, p1, p2, p3, p4, p5⟩ := hF.ring HAO.out hv hl2
            have HBK := Lib.hid (hF.back HAO.out hv hl2)
            have HBY := Lib.hid hF.by_
            have HFR := Lib.hid (show ∀ u, u < r → 1 ≤ U u → (B u).fr = ((frB B u : Nat) : Int) from fun u hu hU => by
              have h := HAO.out _ (hF.by_ u hu hU).1
              show _ = (((B u).fr.toNat : Nat) : Int)
              omega)
            have HFD := Lib.hid (by
              have h := find_ring (l := zs) C7.out (by omega) (by rw [HLL.out]; exact hF) p1 p2 p5 p3
              rw [ring_steps] at h
              exact h)
            have hvd : ¬ (v : Int) < 0 := by omega
            have P3 := Lib.hid p3
            have P4 := Lib.hid p4
            have P5 := Lib.hid p5
            have HLP := Lib.hid (fun u hu => HAO.out (B u) hu)
            have HV := Lib.hid hl2
            have HST := Lib.hid (show ∀ i, i64B (B (itr (frB B) i (itr (frB B) r v))).step from fun i => by
              have h := hF.by_ _ (p5 i).1 (p5 i).2
              exact (arcs_okr C7.out (by omega) (by have := HL.out; omega) _ (by rw [HLL.out]; exact h.1)).1)
            clear hF hl2 p3 p4 p5 hv
            go_wp2_with fail
            go_loop [9, 73] (fun lv kv => ∃ k : Nat, kv = .int .i64 k ∧ k ≤ r ∧ lv = .int .i64 ((itr (frB B) k v : Nat) : Int)) (fun _ kv => r - (intOf kv).toNat)
            case atStart => exact ⟨0, rfl, by omega, rfl⟩
            case round =>
              obtain ⟨k, rfl, hk, rfl⟩ := hrel
              by_cases d2 : k < r
              · have hb := HBK.out k (by omega)
                obtain ⟨u, hu⟩ : ∃ u, itr (frB B) k v = u := ⟨_, rfl⟩
                have hu2 : itr (frB B) (k + 1) v = frB B u := by rw [← hu]; rfl
                rw [hu] at hb ⊢
                have hf := HFR.out u hb.1 (by omega)
                obtain ⟨b0, b1, b2, b3⟩ := HK2.out.aat (listF_at hb.1)
                rw [hf] at b1
                obtain ⟨nx, hnx⟩ : ∃ x, frB B u = x := ⟨_, rfl⟩
                rw [hnx] at b1 hu2
                have HU := Lib.hid hu2
                have k0 : (0 : Int) ≤ (u : Int) := by omega
                have k1 : (u : Int) < (r : Int) := by omega
                clear hb hu hu2 hf hnx b0 b2 b3
                go_wp2_with fail
                go_round
                case rel => exact ⟨k + 1, by go_num, by omega, by rw [HU.out]⟩
                case measure => simp [intOf]; omega
              · obtain rfl : k = r := by omega
                obtain ⟨y, hy⟩ : ∃ y, itr (frB B) k v = y := ⟨_, rfl⟩
                rw [hy] at P3 P4 P5 HFD HST ⊢
                clear hy
                go_wp2_with fail
                go_loopw [12, 13] (fun ov av wx => ∃ j : Nat, j ≤ p ∧ av = .int .i64 ((itr (frB B) j y : Nat) : Int) ∧ wx.ownsRow w.heap.size 3 1 ov (listF j (fun i => (B (itr (frB B) i y)).step)).length ((listF j (fun i => (B (itr (frB B) i y)).step)).flatMap intCells) ∧ Blk wx g2 119 (ACells (listF k B)) ∧ Below w.heap.size w wx) (fun ov _ _ => p - lenOfV ov)
                case atStart => exact ⟨0, by omega, rfl, own_nil _ _ _ _, HK2.out, HB.out⟩
                case round =>
                  obtain ⟨j, hj, rfl, ho, hK2, hB⟩ := hrel
                  have HK2' := Lib.hid hK2
                  have HB' := Lib.hid hB
                  have hzx := hB.size
                  rw [listF_len] at ho
                  obtain ⟨oa, oc, rfl⟩ := own_slice0 ho
                  have HO := Lib.hid ho
                  have hbj := P5.out j
                  obtain ⟨aj, haj⟩ : ∃ a, itr (frB B) j y = a := ⟨_, rfl⟩
                  have hnx : itr (frB B) (j + 1) y = frB B aj := by rw [← haj]; rfl
                  have hf := HFR.out aj (by rw [← haj]; exact hbj.1) (by rw [← haj]; exact hbj.2)
                  have hlp := HLP.out aj (HBY.out aj (by rw [← haj]; exact hbj.1) (by rw [← haj]; exact hbj.2)).1
                  have hbl := HBY.out aj (by rw [← haj]; exact hbj.1) (by rw [← haj]; exact hbj.2)
                  rw [haj] at hbj ⊢
                  obtain ⟨b0, b1, b2, b3⟩ := hK2.aat (listF_at hbj.1)
                  obtain ⟨st, hst⟩ : ∃ s, (B aj).step = s := ⟨_, rfl⟩
                  have HSN := Lib.hid (show listF (j + 1) (fun i => (B (itr (frB B) i y)).step) = listF j (fun i => (B (itr (frB B) i y)).step) ++ [st] by
                    unfold listF
                    rw [List.range_succ, List.map_append]
                    congr 1
                    show [(B (itr (frB B) j y)).step] = [st]
                    rw [haj, hst])
                  rw [hst] at b0
                  rw [hf] at b1
                  obtain ⟨nx, hnx'⟩ : ∃ x, frB B aj = x := ⟨_, rfl⟩
                  rw [hnx'] at b1 hnx hf
                  have HFX := Lib.hid hf
                  have HNX := Lib.hid hnx
                  have hajk : aj < k := hbj.1
                  have k0 : (0 : Int) ≤ (aj : Int) := by omega
                  have k1 : (aj : Int) < (k : Int) := by omega
                  have HAJ := Lib.hid haj
                  have tst : (j < p ∧ (((aj != y) = true ∧ (aj == y) = false ∧ ¬ aj = y) ∨ (aj = y ∧ j = 0))) ∨ (j = p ∧ aj = y) := by
                    by_cases e : j = p
                    · right; exact ⟨e, by rw [← haj, e]; exact P3.out⟩
                    · left
                      refine ⟨by omega, ?_⟩
                      by_cases e0 : j = 0
                      · right; exact ⟨by rw [← haj, e0]; rfl, e0⟩
                      · left
                        have : aj ≠ y := by rw [← haj]; exact P4.out j (by omega) (by omega)
                        exact ⟨by simpa using this, by simpa using this, this⟩
                  clear hK2 hB ho haj hnx hf hlp hbl hbj hst hnx' b2 b3
                  rcases tst with ⟨hjp, tst⟩ | ⟨rfl, he⟩
                  · obtain ⟨xs, hxs⟩ : ∃ xs, listF j (fun i => (B (itr (frB B) i y)).step) = xs := ⟨_, rfl⟩
                    have hxl : xs.length = j := by rw [← hxs]; exact listF_len _ _
                    rw [hxs] at HO HSN
                    have hj6 : j ≤ 6 := by omega
                    have HXL := Lib.hid hxl
                    clear hxs hxl
                    have go := tst
                    clear tst
                    have fin : (aj = y ∧ j = 0) ∨ ((aj != y) = true ∧ (aj == y) = false ∧ ¬ aj = y) := by rcases go with g | g; exact .inr g; exact .inl g
                    clear go
                    rcases fin with ⟨g1', g2'⟩ | ⟨g1', g2', g3'⟩
                    · subst g1'
                      subst g2'
                      go_wp2_with (at_builtin; refine wpList_append_own _ rfl _ _ 22 rfl w.heap.size 3 i0 (.int .i64 0) 1 8 Tryd.underlying22 hi hz0 hz1 hz2 rfl (by decide) _ _ _ rfl (HO.out.alloc _) ⟨wr.heap.size, 0, none⟩ 1 1 _ rfl rfl (cell_newAt wr (intCells st) _ _ rfl) (int_one _) (by unfold maxLen; omega) (by omega) (by simp; omega) ?_; intro v' w4 ho4 hg4 _; have K4 := own_blk_far (HO.out.alloc (.cells #[.int .i64 st] 3)) hg4 (HK2'.out.alloc (.cells #[.int .i64 st] 3)) (by decide); have c1 := (K4.aat (listF_at hajk)).2.1; rw [HFX.out] at c1; have KL := K4.lt)
                      have HB4 := Lib.hid ((HB'.out.alloc hzx (.cells #[.int .i64 st] 3)).grown hg4 (by simp; omega) (fun k hk => (HO.out.lt k hk).1))
                      have HO4 := Lib.hid (show w4.ownsRow w.heap.size 3 1 v' (xs ++ [st]).length ((xs ++ [st]).flatMap intCells) by
                        have h := own_snoc intCells (zs := xs) (z := st) (by rw [HXL.out]; exact ho4)
                        exact h)
                      have hlv : lenOfV v' = 0 + 1 := by
                        rcases ho4.2 with ⟨_, h⟩ | ⟨g, cap, cur, h, _⟩
                        · omega
                        · rw [h]; rfl
                      clear ho4 hg4 c1 KL
                      go_roundw
                      case rel => exact ⟨0 + 1, by omega, by rw [HNX.out], by rw [HSN.out]; exact HO4.out, K4, HB4.out⟩
                      case measure => rw [hlv]; show p - (0 + 1) < p - 0; omega
                    · have go1 : ((aj : Int) != (y : Int)) = true := by simp; omega
                      go_wp2_with (at_builtin; refine wpList_append_own _ rfl _ _ 22 rfl w.heap.size 3 i0 (.int .i64 0) 1 8 Tryd.underlying22 hi hz0 hz1 hz2 rfl (by decide) _ _ _ rfl (HO.out.alloc _) ⟨wr.heap.size, 0, none⟩ 1 1 _ rfl rfl (cell_newAt wr (intCells st) _ _ rfl) (int_one _) (by unfold maxLen; omega) (by omega) (by simp; omega) ?_; intro v' w4 ho4 hg4 _; have K4 := own_blk_far (HO.out.alloc (.cells #[.int .i64 st] 3)) hg4 (HK2'.out.alloc (.cells #[.int .i64 st] 3)) (by decide); have c1 := (K4.aat (listF_at hajk)).2.1; rw [HFX.out] at c1; have KL := K4.lt)
                      have HB4 := Lib.hid ((HB'.out.alloc hzx (.cells #[.int .i64 st] 3)).grown hg4 (by simp; omega) (fun k hk => (HO.out.lt k hk).1))
                      have HO4 := Lib.hid (show w4.ownsRow w.heap.size 3 1 v' (xs ++ [st]).length ((xs ++ [st]).flatMap intCells) by
                        have h := own_snoc intCells (zs := xs) (z := st) (by rw [HXL.out]; exact ho4)
                        exact h)
                      have hlv : lenOfV v' = j + 1 := by
                        rcases ho4.2 with ⟨_, h⟩ | ⟨g, cap, cur, h, _⟩
                        · omega
                        · rw [h]; rfl
                      clear ho4 hg4 c1 KL
                      go_roundw
                      case rel => exact ⟨j + 1, by omega, by rw [HNX.out], by rw [HSN.out]; exact HO4.out, K4, HB4.out⟩
                      case measure => rw [hlv]; show p - (j + 1) < p - j; omega
                  · subst he
                    have hp1 : 1 ≤ j := by omega
                    have jz : ((j : Int) == 0) = false := by simp; omega
                    have hj6 : j ≤ 6 := by omega
                    obtain ⟨g, cap, rest, hov, q1, q2, q3, q4⟩ := own_RC HO.out (listF_len _ _) hp1
                    simp only [Value.slice.injEq, true_and] at hov
                    obtain ⟨rfl, rfl⟩ := hov
                    unfold maxLen at q3
                    have CR := Lib.hid (rev_ints g j oc _ rest wr q4 hp1 (by omega) q2 (by omega))
                    clear q4
                    go_wp2_with fail
                    refine CR.out.mono ?_
                    rintro e w5 ⟨rfl, hb5, ht5⟩
                    have HB5 := Lib.hid hb5
                    have HT5 := Lib.hid (ht5.below q1 hzx)
                    clear hb5 ht5
                    go_wp2_with fail
                    go_ret2
                    refine ⟨some ⟨g, 0, none⟩, j, oc, 0, rfl, HB'.out.trans HT5.out, .inr ⟨C0.out, _, ?_, HFD.out⟩⟩
                    have h := RC_ints HB5.out (c := oc) (by rw [listF_len]; exact q2) (by unfold maxLen; exact q3) (fun x hx => by
                      unfold listF at hx
                      obtain ⟨i, hi, rfl⟩ := List.mem_map.1 hx
                      exact HST.out _)
                    rw [listF_len] at h
                    exact h
  · have C0 := Lib.hid c0
    rw [errV_ne c0] at C
    clear hz c0
    go_enter Tryd.func21, Tryd.ntmps21
    go_wp2_with fail
    refine C.out.mono ?_
    rintro e w1 ⟨rfl, hb1⟩
    go_wp2_with fail
    go_ret2
    exact ⟨none, 0, 0, edgesC N zs, by rw [errV_ne C0.out]; rfl, hb1, .inl ⟨C0.out, rfl⟩⟩
end Go.Proofs.YtfjpfkejajgkbaaDoor
