/- hull.turn and hull.upper, walked. -/
import Derived.Test.YtdjkhagdckhijaaDoorHullS
import Derived.Test.YtdjkhagdckhijaaDoorHullK
import Derived.Test.YtdjkhagdckhijaaDoorHullC
import Derived.Test.YtdjkhagdckhijaaDoorKept
import Derived.Test.YtdjkhagdckhijaaDoorBits
namespace Go.Proofs.YtdjkhagdckhijaaDoor
open Go.RowKit Go.Shelf Go.Sort
set_option linter.unusedVariables false
set_option linter.unusedSimpArgs false
theorem mul_bd2 {p q : Int} (h1 : -2000000 ≤ p ∧ p ≤ 2000000) (h2 : -2000000 ≤ q ∧ q ≤ 2000000) : -4000000000000 ≤ p * q ∧ p * q ≤ 4000000000000 := by
  have h : (p * q).natAbs ≤ 2000000 * 2000000 := by
    rw [Int.natAbs_mul]
    exact Nat.mul_le_mul (by omega) (by omega)
  omega
theorem drop_suf (p : RPoint) : ∀ st : List RPoint, dropP p st <:+ st
  | [] => List.suffix_refl _
  | [_] => List.suffix_refl _
  | m :: s :: r => by
    unfold dropP
    split
    · exact (drop_suf p (s :: r)).trans (List.suffix_cons _ _)
    · exact List.suffix_refl _
theorem push_mem {st : List RPoint} {p q : RPoint} (h : q ∈ pushP st p) : q = p ∨ q ∈ st := by
  rcases List.mem_cons.1 h with h | h
  · exact .inl h
  · exact .inr ((drop_suf p st).mem h)
theorem push_len (st : List RPoint) (p : RPoint) : (pushP st p).length ≤ st.length + 1 := by
  have := (drop_suf p st).length_le
  simp only [pushP, List.length_cons]
  omega
theorem chain_take {es : List RPoint} {i : Nat} {p : RPoint} (h : es[i]? = some p) : chainP (es.take (i + 1)) = pushP (chainP (es.take i)) p := by
  rw [List.take_add_one, h]
  simp [chainP, List.foldl_append]
theorem chain_len (es : List RPoint) : (chainP es).length ≤ es.length := by
  suffices H : ∀ (b st : List RPoint), (b.foldl pushP st).length ≤ st.length + b.length by
    have := H es []; simpa [chainP] using this
  intro b
  induction b with
  | nil => intro st; simp
  | cons p b ih => intro st; have := ih (pushP st p); have := push_len st p; simp only [List.foldl_cons, List.length_cons]; omega
theorem chain_mem (es : List RPoint) : ∀ q ∈ chainP es, q ∈ es := by
  suffices H : ∀ (b st : List RPoint), ∀ q ∈ b.foldl pushP st, q ∈ st ∨ q ∈ b by
    intro q hq
    rcases H es [] q hq with h | h
    · simp at h
    · exact h
  intro b
  induction b with
  | nil => intro st q h; exact .inl h
  | cons p b ih =>
    intro st q h
    rcases ih (pushP st p) q h with h | h
    · rcases push_mem h with h | h
      · exact .inr (by rw [h]; simp)
      · exact .inl h
    · exact .inr (List.mem_cons_of_mem _ h)
/-- the last one of a row goes. -/
theorem own_pop {w : World} {B gg k cap : Nat} {T : TypeId} {L : List RPoint} {m : RPoint} (h : w.ownsRow B T 2 (.slice (some ⟨gg, 0, none⟩) (k + 1) cap) (k + 1) ((L ++ [m]).flatMap RPoint.cells)) (hL : L.length = k) :
    w.ownsRow B T 2 (.slice (some ⟨gg, 0, none⟩) k cap) k (L.flatMap RPoint.cells) := by
  have hl : (L.flatMap RPoint.cells).length = k * 2 := by rw [flat_len RPoint.cells 2 (fun _ => rfl), hL]
  obtain ⟨h1, h2⟩ := h
  refine ⟨hl, ?_⟩
  rcases h2 with ⟨h2, _⟩ | ⟨g', cap', cur, he, hB, hg, hn, hm, hs, ht⟩
  · cases h2
  · simp only [Value.slice.injEq, Option.some.injEq, Addr.mk.injEq, and_true, true_and] at he
    obtain ⟨rfl, rfl⟩ := he
    refine .inr ⟨gg, cap, cur, rfl, hB, hg, by omega, hm, hs, ?_⟩
    rw [List.flatMap_append] at ht
    have := congrArg (List.take (k * 2)) ht
    rw [List.take_take, Nat.min_eq_left (by omega), List.take_left' hl] at this
    exact this
/-- how long a slice is. -/
def lenV (v : Value) : Nat := match v with | .slice _ n _ => n | _ => 0
/-- a place of an own row. -/
theorem own_pt {w : World} {B gg n cap : Nat} {T : TypeId} {zs : List RPoint} (h : w.ownsRow B T 2 (.slice (some ⟨gg, 0, none⟩) n cap) n (zs.flatMap RPoint.cells)) {i : Nat} {z : RPoint} (hz : zs[i]? = some z) :
    w.cell? ⟨gg, i * 2, none⟩ = some (.int .i64 z.x) ∧ w.cell? ⟨gg, i * 2 + 1, none⟩ = some (.int .i64 z.y) := by
  have hc := fun j u => h.cells (g := gg) rfl j u
  have f0 := hc (i * 2 + 0) _ (flat_get RPoint.cells 2 (fun _ => rfl) zs i 0 z _ hz rfl)
  have f1 := hc (i * 2 + 1) _ (flat_get RPoint.cells 2 (fun _ => rfl) zs i 1 z _ hz rfl)
  rw [show (⟨gg, 0, none⟩ : Addr).add (i * 2 + 0) = ⟨gg, i * 2, none⟩ by unfold Addr.add; split <;> simp_all] at f0
  rw [show (⟨gg, 0, none⟩ : Addr).add (i * 2 + 1) = ⟨gg, i * 2 + 1, none⟩ by unfold Addr.add; split <;> simp_all] at f1
  exact ⟨f0, f1⟩
theorem own_holdsP {W : World} {g : Nat} {cur : Array Value} {T : TypeId} {zs : List RPoint} (hb : Blk W g T cur) (hx : cur.toList.take (zs.length * 2) = zs.flatMap RPoint.cells) : HoldsK RPoint.cells 2 W g 0 zs.toArray := by
  intro t ht
  have ht' : t < zs.length * 2 := by simpa using ht
  have hi : t / 2 < zs.length := by omega
  have hbb : W.heap[g]? = some (.cells cur T (0, 0)) := hb
  refine ⟨?_, by simp [World.frozen?, hbb]⟩
  have hz : zs[t / 2]? = some (zs.toArray[t / 2]!) := by
    rw [getElem!_pos zs.toArray (t / 2) (by simpa using hi)]
    simp [hi]
  obtain ⟨z, hzz⟩ : ∃ z, zs.toArray[t / 2]! = z := ⟨_, rfl⟩
  rw [hzz] at hz
  have hc : (RPoint.cells z)[t % 2]? = some ((RPoint.cells z)[t % 2]!) := by
    have h2 : t % 2 < (RPoint.cells z).length := by show t % 2 < 2; omega
    rw [getElem!_pos (RPoint.cells z) (t % 2) h2, List.getElem?_eq_getElem h2]
  have hf := flat_get RPoint.cells 2 (fun _ => rfl) zs (t / 2) (t % 2) z _ hz hc
  rw [show t / 2 * 2 + t % 2 = t by omega, ← hx, List.getElem?_take_of_lt ht'] at hf
  rw [get_flatK RPoint.cells 2 zs.toArray t (by simpa using ht'), hzz]
  simp only [World.cell?, hbb, Nat.zero_add]
  simp only [Option.isSome_none, Bool.false_eq_true, if_false]
  rw [← Array.getElem?_toList, hf]
  rfl
set_option maxRecDepth 100000 in
theorem hull_turn (a b c : RPoint) (w : World) (ha : ptB a = true) (hb : ptB b = true) (hc : ptB c = true) :
    Calls Tryd.prog 31 #[.agg #[.int .i64 a.x, .int .i64 a.y], .agg #[.int .i64 b.x, .int .i64 b.y], .agg #[.int .i64 c.x, .int .i64 c.y]] w fun e w' => e = .returned (.int .i64 (turn a b c)) ∧ Below w.heap.size w w' := by
  rw [ptB_iff] at ha hb hc
  have m1 := mul_bd2 (p := b.x - a.x) (q := c.y - a.y) (by omega) (by omega)
  have m2 := mul_bd2 (p := b.y - a.y) (q := c.x - a.x) (by omega) (by omega)
  have HT := Lib.hid (show turn a b c = (b.x - a.x) * (c.y - a.y) - (b.y - a.y) * (c.x - a.x) from rfl)
  rw [HT.out]
  have i1 := IntWalk.i64_in (b.x - a.x) (by omega)
  have i2 := IntWalk.i64_in (c.y - a.y) (by omega)
  have i3 := IntWalk.i64_in (b.y - a.y) (by omega)
  have i4 := IntWalk.i64_in (c.x - a.x) (by omega)
  have i5 := IntWalk.i64_in ((b.x - a.x) * (c.y - a.y)) (by omega)
  have i6 := IntWalk.i64_in ((b.y - a.y) * (c.x - a.x)) (by omega)
  have i7 := IntWalk.i64_in ((b.x - a.x) * (c.y - a.y) - (b.y - a.y) * (c.x - a.x)) (by omega)
  clear ha hb hc m1 m2 HT
  go_enter Tryd.func31, Tryd.ntmps31
  go_wp2_with fail
  go_ret
  exact ⟨rfl, (by repeat (first | with_reducible exact Below.refl _ _ | (with_reducible refine Below.alloc ?_ (by first | omega | (simp; done) | (simp; omega)) _) | (with_reducible refine Below.setCell ?_ (by first | omega | (simp; done) | (simp; omega)) _) | (with_reducible refine Below.drew ?_) | (with_reducible refine below_drewN ?_ _) | (with_reducible assumption) | (with_reducible refine bel_step (by with_reducible assumption) ?_ (by first | omega | (simp; done) | (simp; omega)))))⟩
set_option maxRecDepth 100000 in
theorem ins_nil (w : World) (f : Value) : Calls Tryd.prog 42 #[.slice none 0 0, .int .i64 0, .int .i64 0, f] w fun e w' => e = .returned (.tuple #[]) ∧ Below w.heap.size w w' := by
  go_enter Tryd.func42, Tryd.ntmps42
  go_wp2_with fail
  refine wp_loop_rounds 1 ?_
  rw [rounds_succ]
  go_wp2_with fail
  refine bodyPost_end (results_none rfl _ _ _) rfl ?_
  exact ⟨rfl, Below.refl _ _⟩
set_option maxRecDepth 100000 in
theorem pdq_nil (w : World) (f : Value) (k : Int) : Calls Tryd.prog 35 #[.slice none 0 0, .int .i64 0, .int .i64 0, .int .i64 k, f] w fun e w' => e = .returned (.tuple #[]) ∧ Below w.heap.size w w' := by
  go_enter Tryd.func35, Tryd.ntmps35
  go_wp2_with fail
  refine wp_loop_rounds 1 ?_
  rw [rounds_succ]
  go_wp2_with fail
  refine (ins_nil _ f).mono ?_
  rintro e w' ⟨rfl, hb⟩
  go_wp2_with fail
  refine bodyPost_ret (v := .tuple #[]) (by simp [results, Tryd.results35, go_sem]) rfl ?_
  exact ⟨rfl, hb⟩
theorem sort_nil (w : World) : Calls Tryd.prog 25 #[.slice none 0 0, .func (.func 26) #[] #[]] w fun e w' => e = .returned (.tuple #[]) ∧ Below w.heap.size w w' := by
  have CB := Lib.hid (bits_Len 0 w (by omega) (by omega))
  go_enter Tryd.func25, Tryd.ntmps25
  go_wp2_with fail
  refine CB.out.mono ?_
  rintro e w' ⟨rfl, rfl⟩
  go_wp2_with fail
  refine (pdq_nil _ _ _).mono ?_
  rintro e w2 ⟨rfl, hb⟩
  go_wp2_with fail
  refine bodyPost_end (results_none rfl _ _ _) rfl ?_
  exact ⟨rfl, hb⟩
theorem compact_nil (w : World) : Calls Tryd.prog 29 #[.slice none 0 0, .func (.func 30) #[] #[]] w fun e w' => e = .returned (.slice none 0 0) ∧ w = w' := by
  go_enter Tryd.func29, Tryd.ntmps29
  go_wp2_with fail
  go_ret
  exact ⟨rfl, rfl⟩
set_option maxRecDepth 100000 in
set_option maxHeartbeats 4000000 in
theorem clone_points (A : Option Addr) (n c : Nat) (zs : List RPoint) (w : World) (h : IsRecs w RPoint.cells RPoint.ok 2 A n c zs) (hn : n ≤ 1000) :
    Calls Tryd.prog 24 #[.slice A n c] w fun e w' => Below w.heap.size w w' ∧ ((n = 0 ∧ e = .returned (.slice none 0 0)) ∨ ∃ g cap cur, e = .returned (.slice (some ⟨g, 0, none⟩) n cap) ∧ w.heap.size ≤ g ∧ Blk w' g 29 cur ∧ cur.size = cap * 2 ∧ n ≤ cap ∧ cap ≤ maxLen ∧ cur.toList.take (n * 2) = zs.flatMap RPoint.cells) := by
  obtain ⟨i0, hi, hz0, hz1, hz2⟩ := info_parts infoPt
  have hq := Lib.run_eql_slice_nil (P := Tryd.prog)
  obtain ⟨l1, l2, l3, l4, l5⟩ := h
  unfold maxLen at l3
  rcases Nat.eq_zero_or_pos n with h0 | h0
  · subst h0
    have HZ0 := Lib.hid (show zs = [] from List.length_eq_zero_iff.1 l1)
    clear l4 l5 l1
    cases A with
    | none =>
      go_enter Tryd.func24, Tryd.ntmps24
      go_wp2_with fail
      go_ret
      exact ⟨Below.refl _ _, .inl ⟨trivial, rfl⟩⟩
    | some p =>
      go_enter Tryd.func24, Tryd.ntmps24
      go_wp2_with fail
      go_ret
      exact ⟨(Below.refl _ _).alloc (Nat.le_refl _) _, .inr ⟨w.heap.size, 0, #[], rfl, Nat.le_refl _, Blk.new w _ _, rfl, Nat.le_refl _, by unfold maxLen; omega, by rw [HZ0.out]; rfl⟩⟩
  · obtain ⟨b, off, rfl, hbl, hc⟩ := l5 h0
    have ho : (w.alloc (.cells #[] 29)).ownsRow w.heap.size 29 2 (.slice (some ⟨w.heap.size, 0, none⟩) 0 0) 0 [] :=
      ⟨by simp, .inr ⟨w.heap.size, 0, #[], rfl, Nat.le_refl _, heap_alloc_new w _, by omega, by unfold maxLen; omega, by simp, by simp⟩⟩
    have hL : (zs.flatMap RPoint.cells).length = n * 2 := by rw [flat_len RPoint.cells 2 (fun _ => rfl), l1]
    have hnew : ∀ j u, (zs.flatMap RPoint.cells)[j]? = some u → (w.alloc (.cells #[] 29)).cell? ((⟨b, off, none⟩ : Addr).add j) = some u := by
      intro j u hj
      have hjl : j < n * 2 := by rw [← hL]; exact (List.getElem?_eq_some_iff.1 hj).1
      obtain ⟨z, hz⟩ : ∃ z, zs[j / 2]? = some z := ⟨_, List.getElem?_eq_getElem (by omega)⟩
      obtain ⟨u', hu'⟩ : ∃ u', (RPoint.cells z)[j % 2]? = some u' := ⟨_, List.getElem?_eq_getElem (by show j % 2 < 2; omega)⟩
      have hf := flat_get RPoint.cells 2 (fun _ => rfl) zs (j / 2) (j % 2) z u' hz hu'
      rw [show j / 2 * 2 + j % 2 = j by omega, hj] at hf
      cases hf
      have := hc (j / 2) z hz (j % 2) u hu'
      rw [show off + j / 2 * 2 + j % 2 = off + j by omega] at this
      rw [show (⟨b, off, none⟩ : Addr).add j = ⟨b, off + j, none⟩ by unfold Addr.add; split <;> simp_all]
      rw [World.cell?_alloc_lt _ _ ⟨b, off + j, none⟩ hbl]
      exact this
    have HO := Lib.hid ho
    have HN := Lib.hid hnew
    have HL := Lib.hid hL
    have HOne := Lib.hid (points_one zs)
    obtain ⟨L, hLe⟩ : ∃ L, zs.flatMap RPoint.cells = L := ⟨_, rfl⟩
    rw [hLe] at HN HL HOne ⊢
    clear l1 ho hnew hc l4 l5 hL hLe
    go_enter Tryd.func24, Tryd.ntmps24
    go_wp2_with (at_builtin; refine wpList_append_own _ rfl _ _ 27 rfl w.heap.size 29 i0 (.agg #[.int .i64 0, .int .i64 0]) 2 16 Tryd.underlying27 hi hz0 hz1 hz2 rfl (by decide) _ _ _ rfl HO.out ⟨b, off, none⟩ n c L rfl (by rw [HL.out]) HN.out HOne.out (by unfold maxLen; omega) (by omega) (by simp) ?_; intro v' w1 ho1 hg1 hnil)
    have hb2 : Below w.heap.size w w1 := ((Below.refl _ _).alloc (Nat.le_refl _) _).grown hg1 (by simp) (fun k hk => (HO.out.lt k hk).1)
    have HO1 := Lib.hid ho1
    have HB := Lib.hid hb2
    clear ho1 hnil hb2 hg1
    rcases HO1.out.2 with ⟨_, h⟩ | ⟨g, cap, cur, rfl, hB, hg, hn', hm, hs, ht⟩
    · omega
    · have HG := Lib.hid hg
      have HTk := Lib.hid ht
      clear hg ht
      go_wp2_with fail
      refine bodyPost_ret (v := .slice (some ⟨g, 0, none⟩) n cap) (by simp [results, Tryd.results24, go_sem]) rfl ?_
      exact ⟨HB.out, .inr ⟨g, cap, cur, rfl, hB, HG.out, hs, by omega, hm, by simpa using HTk.out⟩⟩
set_option maxRecDepth 100000 in
set_option maxHeartbeats 16000000 in
theorem hull_upper (A : Option Addr) (n c : Nat) (zs : List RPoint) (w : World) (h : IsRecs w RPoint.cells RPoint.ok 2 A n c zs) (hn : n ≤ 60) (hb : ∀ z ∈ zs, ptB z = true) :
    Calls Tryd.prog 16 #[.slice A n c] w fun e w' => ∃ cs A' k' c', e = .returned (.slice A' k' c') ∧ IsRecs w' RPoint.cells RPoint.ok 2 A' k' c' cs ∧ IsHull zs cs ∧ k' ≤ n ∧ Below w.heap.size w w' := by
  obtain ⟨i0, hi, hz0, hz1, hz2⟩ := info_parts infoPt
  have hl := h.1
  have CC := Lib.hid (clone_points A n c zs w h (by omega))
  have HL := Lib.hid hl
  have HB := Lib.hid hb
  clear h hl hb
  go_enter Tryd.func16, Tryd.ntmps16
  go_wp2_with fail
  refine CC.out.mono ?_
  rintro e w1 ⟨hb1, ⟨rfl, rfl⟩ | ⟨g, cap, cur, rfl, hg0, hbk, hcs, hnc, hcm, hct⟩⟩
  · have hz : zs = [] := List.length_eq_zero_iff.1 HL.out
    subst hz
    have HB1 := Lib.hid hb1
    clear hb1 CC
    go_wp2_with fail
    refine (sort_nil _).mono ?_
    rintro e w2 ⟨rfl, hb2⟩
    have HB2 := Lib.hid (HB1.out.trans (hb2.mono HB1.out.size))
    clear hb2
    go_wp2_with fail
    refine (compact_nil _).mono ?_
    rintro e w3 ⟨rfl, rfl⟩
    go_wp2_with fail
    refine wp_loop_rounds 1 ?_
    rw [rounds_succ]
    go_wp2_with fail
    go_ret
    exact ⟨[], none, 0, 0, rfl, ⟨rfl, Nat.le_refl _, by unfold maxLen; omega, by simp, fun h => absurd h (by omega)⟩, ⟨by simp, by simp [RiseX], by simp, by simp, by simp, by simp, by simp, by simp⟩, Nat.le_refl _, HB2.out⟩
  · have HB1 := Lib.hid hb1
    have hgl := hbk.lt
    have CS := Lib.hid (by have := sort_points zs g cap w1 cur _ hbk (own_holdsP hbk (by rw [HL.out]; exact hct)) hgl (by rw [HL.out]; omega); rw [HL.out] at this; exact this)
    clear hb1 CC
    go_wp2_with fail
    refine CS.out.mono ?_
    rintro e w2 ⟨rfl, es, hp, ho, hcell, hgr, cur2, hb2, hs2⟩
    have hles : es.length = n := by rw [hp.length_eq, HL.out]
    have CK := Lib.hid (compact_points g n cap es cur2 w2 hb2 (by rw [hs2]; exact hcs) hles hnc hcm (by omega) (fun i z hz => by
      obtain ⟨q1, q2⟩ := hcell i z hz
      rw [hb2.cell] at q1 q2
      exact ⟨q1, q2⟩))
    have HB2 := Lib.hid (show Below w.heap.size w w2 from HB1.out.grown hgr HB1.out.size (fun j hj => by cases hj; exact hg0))
    have HP := Lib.hid hp
    have HO := Lib.hid ho
    have hz2 := HB2.out.size
    clear hp ho hcell hgr hb2 hs2 CS HB1 hbk hct
    go_wp2_with fail
    refine CK.out.mono ?_
    rintro e w3 ⟨cur3, rfl, hb3, hs3, hpt, hgr⟩
    have HB3 := Lib.hid (show Below w.heap.size w w3 from HB2.out.grown hgr hz2 (fun j hj => by cases hj; exact hg0))
    have hz3 := HB3.out.size
    have hcl := compX_len es
    obtain ⟨N, hN⟩ : ∃ N, (compX es).length = N := ⟨_, rfl⟩
    rw [hN] at hcl ⊢
    have HN := Lib.hid hN
    have HB3b := Lib.hid hb3
    have HPt := Lib.hid hpt
    have hg3 := hb3.lt
    have hcok := Lib.hid (show ∀ z ∈ compX es, ptB z = true from fun z hz => HB.out z (HP.out.mem_iff.1 (compX_sub z hz)))
    have hN60 : N ≤ 60 := by omega
    have hNn : N ≤ n := by omega
    clear hb3 hs3 hpt hgr HB2 hz2 CK hN hcl hles
    go_wp2_with fail
    go_loopw [3, 14] (fun ov iv wr => ∃ (i k : Nat) (A : Option Addr) (c : Nat), iv = .int .i64 i ∧ i ≤ N ∧ ov = .slice A k c ∧ (chainP ((compX es).take i)).length = k ∧ wr.ownsRow w3.heap.size 29 2 ov k ((chainP ((compX es).take i)).reverse.flatMap RPoint.cells) ∧ Below w3.heap.size w3 wr) (fun _ iv _ => N - (intOf iv).toNat)
    case atStart => exact ⟨0, 0, none, 0, rfl, by omega, rfl, rfl, own_nil _ _ _ _, Below.refl _ _⟩
    case round =>
      obtain ⟨i, k, A, c, rfl, hi', rfl, hk, ho, hB⟩ := hrel
      obtain ⟨wo, hwo⟩ : ∃ wo, wo = wr := ⟨_, rfl⟩
      subst hwo
      have HO1 := Lib.hid ho
      have HB4 := Lib.hid hB
      have HK := Lib.hid hk
      have hz4 := hB.size
      clear ho hB
      by_cases d1 : i < N
      · obtain ⟨p, hp⟩ : ∃ p, (compX es)[i]? = some p := ⟨_, List.getElem?_eq_getElem (by rw [HN.out]; exact d1)⟩
        have x0 : wo.cell? ⟨g, i * 2, none⟩ = some (.int .i64 p.x) := (HB4.out.cell (p := ⟨g, i * 2, none⟩) hg3).trans ((HB3b.out.cell _).trans (HPt.out i p hp).1)
        have x1 : wo.cell? ⟨g, i * 2 + 1, none⟩ = some (.int .i64 p.y) := (HB4.out.cell (p := ⟨g, i * 2 + 1, none⟩) hg3).trans ((HB3b.out.cell _).trans (HPt.out i p hp).2)
        have HCh := Lib.hid (chain_take hp)
        have HPb := Lib.hid (hcok.out p (List.mem_of_getElem? hp))
        obtain ⟨st, hst⟩ : ∃ st, chainP ((compX es).take i) = st := ⟨_, rfl⟩
        rw [hst] at HO1 HK HCh
        have hmem : ∀ q ∈ st, ptB q = true := fun q hq => hcok.out q (List.mem_of_mem_take (chain_mem _ q (by rw [hst]; exact hq)))
        have HM := Lib.hid hmem
        have hkl : k ≤ i := by have := chain_len ((compX es).take i); rw [hst, HK.out, List.length_take] at this; omega
        have q0 : (0 : Int) ≤ (i : Int) := by omega
        have q1 : (i : Int) < (N : Int) := by omega
        clear hp hst hmem hk
        go_upto_block 2 with fail
        obtain ⟨bx, hbx⟩ : ∃ bx, wo.heap.size = bx := ⟨_, rfl⟩
        obtain ⟨w5, hw5⟩ : ∃ w5, wo.alloc (.cells #[.int .i64 p.x, .int .i64 p.y] 29) = w5 := ⟨_, rfl⟩
        have hal : Below wo.heap.size wo w5 := by rw [← hw5]; exact (Below.refl _ _).alloc (Nat.le_refl _) _
        have hbp : Blk w5 bx 29 #[.int .i64 p.x, .int .i64 p.y] := by rw [← hw5, ← hbx]; exact Blk.new wo _ _
        have HO5 := Lib.hid (own_below HO1.out hal)
        have HB5 := Lib.hid (HB4.out.trans (hal.mono hz4))
        have v0 : w5.cell? ⟨bx, 0, none⟩ = some (.int .i64 p.x) := hbp.cell 0
        have v1 : w5.cell? ⟨bx, 1, none⟩ = some (.int .i64 p.y) := hbp.cell 1
        have vl := hbp.lt
        rw [hw5]
        rw [show (⟨wo.heap.size, 0, none⟩ : Addr) = ⟨bx, 0, none⟩ by rw [hbx]]
        clear hw5 hal hbp HO1 HB4 x0 x1 hbx hz4
        go_cut [3] (fun ov wx => ∃ (k' : Nat) (A : Option Addr) (c : Nat), ov = .slice A k' c ∧ (dropP p st).length = k' ∧ wx.ownsRow w3.heap.size 29 2 ov k' ((dropP p st).reverse.flatMap RPoint.cells) ∧ wx.cell? ⟨bx, 0, none⟩ = some (.int .i64 p.x) ∧ wx.cell? ⟨bx, 1, none⟩ = some (.int .i64 p.y) ∧ bx < wx.heap.size ∧ Below w3.heap.size w3 wx)
        case first =>
          go_wp2_with fail
          go_loopw [3] (fun ov wx => ∃ (st' : List RPoint) (k' : Nat) (A : Option Addr) (c : Nat), ov = .slice A k' c ∧ st'.length = k' ∧ k' ≤ k ∧ dropP p st' = dropP p st ∧ (∀ q ∈ st', ptB q = true) ∧ wx.ownsRow w3.heap.size 29 2 ov k' (st'.reverse.flatMap RPoint.cells) ∧ wx.cell? ⟨bx, 0, none⟩ = some (.int .i64 p.x) ∧ wx.cell? ⟨bx, 1, none⟩ = some (.int .i64 p.y) ∧ bx < wx.heap.size ∧ Below w3.heap.size w3 wx) (fun ov _ => lenV ov)
          case atStart => exact ⟨st, k, A, c, rfl, HK.out, Nat.le_refl _, rfl, HM.out, HO5.out, v0, v1, vl, HB5.out⟩
          case round =>
            obtain ⟨st', k', A', c', rfl, hk', hkk, hdr, hm', ho', x0, x1, hbl, hB'⟩ := hrel
            have HBx := Lib.hid hB'
            have HD := Lib.hid hdr
            have HMx := Lib.hid hm'
            have HOx := Lib.hid ho'
            have HKx := Lib.hid hk'
            clear hB' hdr hm' ho' v0 v1 vl HO5 HB5
            by_cases c1 : k' ≤ 1
            · have HDr := Lib.hid (show dropP p st = st' by
                rw [← HD.out]
                have := HKx.out
                match st', this with
                | [], _ => rfl
                | [_], _ => rfl
                | _ :: _ :: _, h => simp at h; omega)
              have h1 : ((1 : Int) < (k' : Int)) = False := by simp; omega
              have h2 : decide ((1 : Int) < (k' : Int)) = false := by simp; omega
              clear hk' c1
              go_wp2_with fail
              refine wp_region_held_drew (S := fun w9 => w9.cell? ⟨bx, 0, none⟩ = some (.int .i64 p.x)) (by kernel_rfl) (x0) (fun hHeld => ?_)
              refine take_d (i := 0) (v := (.slice A' k' c')) (d := some 18) rfl (by kernel_rfl) (by kernel_rfl) (by kernel_rfl) (by kernel_rfl) (fun _ _ _ h => h) (Or.inl ⟨by kernel_rfl, fun w9 hw9 => by (go_simp)⟩) hHeld ?_
              try simp only [Act.put, List.setIfInBounds_toArray, List.set_cons_zero, List.set_cons_succ]
              refine take_d (i := 1) (v := (.int .i64 k')) (d := some 19) rfl (by kernel_rfl) (by kernel_rfl) (by kernel_rfl) (by kernel_rfl) (fun _ _ _ h => h) (Or.inl ⟨by kernel_rfl, fun w9 hw9 => by (go_simp)⟩) hHeld ?_
              try simp only [Act.put, List.setIfInBounds_toArray, List.set_cons_zero, List.set_cons_succ]
              refine take_d (i := 2) (v := (.bool false)) (d := some 20) rfl (by kernel_rfl) (by kernel_rfl) (by kernel_rfl) (by kernel_rfl) (fun _ _ _ h => h) (Or.inl ⟨by kernel_rfl, fun w9 hw9 => by (go_simp)⟩) hHeld ?_
              try simp only [Act.put, List.setIfInBounds_toArray, List.set_cons_zero, List.set_cons_succ]
              refine take_d (i := 3) (v := (.bool false)) (d := some 21) rfl (by kernel_rfl) (by kernel_rfl) (by kernel_rfl) (by kernel_rfl) (fun _ _ _ h => h) (Or.inl ⟨by kernel_rfl, fun w9 hw9 => by (go_simp)⟩) hHeld ?_
              try simp only [Act.put, List.setIfInBounds_toArray, List.set_cons_zero, List.set_cons_succ]
              refine take_d (i := 4) (v := undef) (d := some 22) rfl (by kernel_rfl) (by kernel_rfl) (by kernel_rfl) (by kernel_rfl) (fun _ _ _ h => h) (Or.inr ⟨by kernel_rfl, rfl⟩) hHeld ?_
              try simp only [Act.put, List.setIfInBounds_toArray, List.set_cons_zero, List.set_cons_succ]
              refine take_d (i := 5) (v := undef) (d := some 23) rfl (by kernel_rfl) (by kernel_rfl) (by kernel_rfl) (by kernel_rfl) (fun _ _ _ h => h) (Or.inr ⟨by kernel_rfl, rfl⟩) hHeld ?_
              try simp only [Act.put, List.setIfInBounds_toArray, List.set_cons_zero, List.set_cons_succ]
              refine take_d (i := 6) (v := undef) (d := some 24) rfl (by kernel_rfl) (by kernel_rfl) (by kernel_rfl) (by kernel_rfl) (fun _ _ _ h => h) (Or.inr ⟨by kernel_rfl, rfl⟩) hHeld ?_
              try simp only [Act.put, List.setIfInBounds_toArray, List.set_cons_zero, List.set_cons_succ]
              refine take_d (i := 7) (v := undef) (d := some 25) rfl (by kernel_rfl) (by kernel_rfl) (by kernel_rfl) (by kernel_rfl) (fun _ _ _ h => h) (Or.inr ⟨by kernel_rfl, rfl⟩) hHeld ?_
              try simp only [Act.put, List.setIfInBounds_toArray, List.set_cons_zero, List.set_cons_succ]
              refine take_d (i := 8) (v := undef) (d := some 26) rfl (by kernel_rfl) (by kernel_rfl) (by kernel_rfl) (by kernel_rfl) (fun _ _ _ h => h) (Or.inr ⟨by kernel_rfl, rfl⟩) hHeld ?_
              try simp only [Act.put, List.setIfInBounds_toArray, List.set_cons_zero, List.set_cons_succ]
              refine take_d (i := 9) (v := undef) (d := some 27) rfl (by kernel_rfl) (by kernel_rfl) (by kernel_rfl) (by kernel_rfl) (fun _ _ _ h => h) (Or.inr ⟨by kernel_rfl, rfl⟩) hHeld ?_
              try simp only [Act.put, List.setIfInBounds_toArray, List.set_cons_zero, List.set_cons_succ]
              refine take_d (i := 10) (v := undef) (d := some 28) rfl (by kernel_rfl) (by kernel_rfl) (by kernel_rfl) (by kernel_rfl) (fun _ _ _ h => h) (Or.inr ⟨by kernel_rfl, rfl⟩) hHeld ?_
              try simp only [Act.put, List.setIfInBounds_toArray, List.set_cons_zero, List.set_cons_succ]
              refine take_d (i := 11) (v := undef) (d := some 29) rfl (by kernel_rfl) (by kernel_rfl) (by kernel_rfl) (by kernel_rfl) (fun _ _ _ h => h) (Or.inr ⟨by kernel_rfl, rfl⟩) hHeld ?_
              try simp only [Act.put, List.setIfInBounds_toArray, List.set_cons_zero, List.set_cons_succ]
              refine take_d (i := 12) (v := undef) (d := some 30) rfl (by kernel_rfl) (by kernel_rfl) (by kernel_rfl) (by kernel_rfl) (fun _ _ _ h => h) (Or.inr ⟨by kernel_rfl, rfl⟩) hHeld ?_
              try simp only [Act.put, List.setIfInBounds_toArray, List.set_cons_zero, List.set_cons_succ]
              refine take_d (i := 13) (v := undef) (d := some 31) rfl (by kernel_rfl) (by kernel_rfl) (by kernel_rfl) (by kernel_rfl) (fun _ _ _ h => h) (Or.inr ⟨by kernel_rfl, rfl⟩) hHeld ?_
              try simp only [Act.put, List.setIfInBounds_toArray, List.set_cons_zero, List.set_cons_succ]
              refine take_d (i := 14) (v := undef) (d := some 32) rfl (by kernel_rfl) (by kernel_rfl) (by kernel_rfl) (by kernel_rfl) (fun _ _ _ h => h) (Or.inr ⟨by kernel_rfl, rfl⟩) hHeld ?_
              try simp only [Act.put, List.setIfInBounds_toArray, List.set_cons_zero, List.set_cons_succ]
              refine take_d (i := 15) (v := undef) (d := some 33) rfl (by kernel_rfl) (by kernel_rfl) (by kernel_rfl) (by kernel_rfl) (fun _ _ _ h => h) (Or.inr ⟨by kernel_rfl, rfl⟩) hHeld ?_
              try simp only [Act.put, List.setIfInBounds_toArray, List.set_cons_zero, List.set_cons_succ]
              refine take_d (i := 16) (v := undef) (d := some 34) rfl (by kernel_rfl) (by kernel_rfl) (by kernel_rfl) (by kernel_rfl) (fun _ _ _ h => h) (Or.inr ⟨by kernel_rfl, rfl⟩) hHeld ?_
              try simp only [Act.put, List.setIfInBounds_toArray, List.set_cons_zero, List.set_cons_succ]
              refine take_d (i := 17) (v := undef) (d := some 35) rfl (by kernel_rfl) (by kernel_rfl) (by kernel_rfl) (by kernel_rfl) (fun _ _ _ h => h) (Or.inr ⟨by kernel_rfl, rfl⟩) hHeld ?_
              try simp only [Act.put, List.setIfInBounds_toArray, List.set_cons_zero, List.set_cons_succ]
              refine take_d (i := 18) (v := undef) (d := some 36) rfl (by kernel_rfl) (by kernel_rfl) (by kernel_rfl) (by kernel_rfl) (fun _ _ _ h => h) (Or.inr ⟨by kernel_rfl, rfl⟩) hHeld ?_
              try simp only [Act.put, List.setIfInBounds_toArray, List.set_cons_zero, List.set_cons_succ]
              refine take_d (i := 19) (v := (.bool false)) (d := some 37) rfl (by kernel_rfl) (by kernel_rfl) (by kernel_rfl) (by kernel_rfl) (fun _ _ _ h => h) (Or.inl ⟨by kernel_rfl, fun w9 hw9 => by (go_simp)⟩) hHeld ?_
              try simp only [Act.put, List.setIfInBounds_toArray, List.set_cons_zero, List.set_cons_succ]
              refine wpAnyH_done (by kernel_rfl) ?_ _
              try simp only [Act.put, List.setIfInBounds_toArray, List.set_cons_zero, List.set_cons_succ]
              go_wp2_with fail
              go_meet
              case rel => exact ⟨k', A', c', rfl, by rw [HDr.out]; exact HKx.out, by rw [HDr.out]; exact own_drewN HOx.out 1, x0, x1, hbl, HBx.out.drew⟩
            · obtain ⟨m, s, r, hst'⟩ : ∃ m s r, st' = m :: s :: r := by
                match st', hk' with
                | [], h => simp at h; omega
                | [_], h => simp at h; omega
                | m :: s :: r, _ => exact ⟨m, s, r, rfl⟩
              subst hst'
              obtain ⟨j, hj⟩ : ∃ j, r.length = j := ⟨_, rfl⟩
              obtain ⟨j1, hj1⟩ : ∃ j1, j + 1 = j1 := ⟨_, rfl⟩
              simp only [List.length_cons] at hk'
              have hrev : (m :: s :: r).reverse = (s :: r).reverse ++ [m] := by simp
              obtain ⟨gg, cp, hsl, ggl, hkc⟩ : ∃ gg cp, Value.slice A' k' c' = .slice (some ⟨gg, 0, none⟩) k' cp ∧ gg < wr.heap.size ∧ k' ≤ cp := by
                rcases HOx.out.2 with ⟨_, h⟩ | ⟨g', cp, cur, he, _, hg, hkc, _⟩
                · omega
                · exact ⟨g', cp, he, (Array.getElem?_eq_some_iff.1 hg).1, hkc⟩
              rw [hsl] at HOx ⊢
              have hs1 : (m :: s :: r).reverse[j]? = some s := by
                rw [hrev, List.getElem?_append_left (by simp; omega), List.getElem?_reverse (by simp; omega)]
                simp [hj]
              have hs2 : (m :: s :: r).reverse[j1]? = some m := by
                rw [hrev, List.getElem?_append_right (by simp; omega), show j1 - (s :: r).reverse.length = 0 by simp; omega]
                rfl
              obtain ⟨y0, y1⟩ := own_pt HOx.out hs1
              obtain ⟨y2, y3⟩ := own_pt HOx.out hs2
              have CT := Lib.hid (fun w => hull_turn s m p w (HMx.out s (by simp)) (HMx.out m (by simp)) HPb.out)
              obtain ⟨tv, htv⟩ : ∃ tv, turn s m p = tv := ⟨_, rfl⟩
              rw [htv] at CT
              obtain ⟨T, hT⟩ : ∃ T, decide (0 ≤ tv) = T := ⟨_, rfl⟩
              have HT := Lib.hid hT
              have hT2 : (decide (0 ≤ tv)) = T := hT
              have HTv := Lib.hid htv
              have HJ := Lib.hid hj
              have hkj := Lib.hid (show k' = j1 + 1 by omega)
              have t1 : (1 : Int) < (k' : Int) := by omega
              have t2 : (k' : Int) - 2 = (j : Int) := by omega
              have t3 : (k' : Int) - 1 = (j1 : Int) := by omega
              have t4 : (0 : Int) ≤ (j : Int) := by omega
              have t5 : (j : Int) < (k' : Int) := by omega
              have t6 : (0 : Int) ≤ (j1 : Int) := by omega
              have t7 : (j1 : Int) < (k' : Int) := by omega
              have t8 := IntWalk.i64_in (j : Int) (by omega)
              have t9 := IntWalk.i64_in (j1 : Int) (by omega)
              have hjk : j1 ≤ k := by omega
              have hjk2 : j1 ≤ k' := by omega
              clear hs1 hs2 hsl htv hj hrev hk' c1 hT
              go_wp2_with fail
              refine wp_region_held_drew (S := fun w9 => w9.cell? ⟨gg, j * 2, none⟩ = some (.int .i64 s.x) ∧ w9.cell? ⟨gg, j * 2 + 1, none⟩ = some (.int .i64 s.y) ∧ w9.cell? ⟨gg, j1 * 2, none⟩ = some (.int .i64 m.x) ∧ w9.cell? ⟨gg, j1 * 2 + 1, none⟩ = some (.int .i64 m.y) ∧ w9.cell? ⟨bx, 0, none⟩ = some (.int .i64 p.x) ∧ w9.cell? ⟨bx, 1, none⟩ = some (.int .i64 p.y)) (by kernel_rfl) (⟨y0, y1, y2, y3, x0, x1⟩) (fun hHeld => ?_)
              refine take_d (i := 0) (v := (.slice (some ⟨gg, 0, none⟩) k' cp)) (d := some 18) rfl (by kernel_rfl) (by kernel_rfl) (by kernel_rfl) (by kernel_rfl) (fun _ _ _ h => h) (Or.inl ⟨by kernel_rfl, fun w9 hw9 => by (go_simp)⟩) hHeld ?_
              try simp only [Act.put, List.setIfInBounds_toArray, List.set_cons_zero, List.set_cons_succ]
              refine take_d (i := 1) (v := (.int .i64 k')) (d := some 19) rfl (by kernel_rfl) (by kernel_rfl) (by kernel_rfl) (by kernel_rfl) (fun _ _ _ h => h) (Or.inl ⟨by kernel_rfl, fun w9 hw9 => by (go_simp)⟩) hHeld ?_
              try simp only [Act.put, List.setIfInBounds_toArray, List.set_cons_zero, List.set_cons_succ]
              refine take_d (i := 2) (v := (.bool true)) (d := some 20) rfl (by kernel_rfl) (by kernel_rfl) (by kernel_rfl) (by kernel_rfl) (fun _ _ _ h => h) (Or.inl ⟨by kernel_rfl, fun w9 hw9 => by (go_simp)⟩) hHeld ?_
              try simp only [Act.put, List.setIfInBounds_toArray, List.set_cons_zero, List.set_cons_succ]
              refine take_d (i := 3) (v := (.bool true)) (d := some 21) rfl (by kernel_rfl) (by kernel_rfl) (by kernel_rfl) (by kernel_rfl) (fun _ _ _ h => h) (Or.inl ⟨by kernel_rfl, fun w9 hw9 => by (go_simp)⟩) hHeld ?_
              try simp only [Act.put, List.setIfInBounds_toArray, List.set_cons_zero, List.set_cons_succ]
              refine take_d (i := 4) (v := (.slice (some ⟨gg, 0, none⟩) k' cp)) (d := some 22) rfl (by kernel_rfl) (by kernel_rfl) (by kernel_rfl) (by kernel_rfl) (fun _ _ _ h => h) (Or.inl ⟨by kernel_rfl, fun w9 hw9 => by (go_simp)⟩) hHeld ?_
              try simp only [Act.put, List.setIfInBounds_toArray, List.set_cons_zero, List.set_cons_succ]
              refine take_d (i := 5) (v := (.slice (some ⟨gg, 0, none⟩) k' cp)) (d := some 23) rfl (by kernel_rfl) (by kernel_rfl) (by kernel_rfl) (by kernel_rfl) (fun _ _ _ h => h) (Or.inl ⟨by kernel_rfl, fun w9 hw9 => by (go_simp)⟩) hHeld ?_
              try simp only [Act.put, List.setIfInBounds_toArray, List.set_cons_zero, List.set_cons_succ]
              refine take_d (i := 6) (v := (.int .i64 k')) (d := some 24) rfl (by kernel_rfl) (by kernel_rfl) (by kernel_rfl) (by kernel_rfl) (fun _ _ _ h => h) (Or.inl ⟨by kernel_rfl, fun w9 hw9 => by (go_simp)⟩) hHeld ?_
              try simp only [Act.put, List.setIfInBounds_toArray, List.set_cons_zero, List.set_cons_succ]
              refine take_d (i := 7) (v := (.int .i64 j)) (d := some 25) rfl (by kernel_rfl) (by kernel_rfl) (by kernel_rfl) (by kernel_rfl) (fun _ _ _ h => h) (Or.inl ⟨by kernel_rfl, fun w9 hw9 => by (go_simp)⟩) hHeld ?_
              try simp only [Act.put, List.setIfInBounds_toArray, List.set_cons_zero, List.set_cons_succ]
              refine take_d (i := 8) (v := (.pointer (some ⟨gg, j * 2, none⟩))) (d := some 26) rfl (by kernel_rfl) (by kernel_rfl) (by kernel_rfl) (by kernel_rfl) (fun _ _ _ h => h) (Or.inl ⟨by kernel_rfl, fun w9 hw9 => by (go_simp)⟩) hHeld ?_
              try simp only [Act.put, List.setIfInBounds_toArray, List.set_cons_zero, List.set_cons_succ]
              refine take_d (i := 9) (v := (.agg #[.int .i64 s.x, .int .i64 s.y])) (d := some 27) rfl (by kernel_rfl) (by kernel_rfl) (by kernel_rfl) (by kernel_rfl) (fun _ _ _ h => h) (Or.inl ⟨by kernel_rfl, fun w9 hw9 => by (obtain ⟨a0, a1, a2, a3, a4, a5⟩ := hw9; go_simp)⟩) hHeld ?_
              try simp only [Act.put, List.setIfInBounds_toArray, List.set_cons_zero, List.set_cons_succ]
              refine take_d (i := 10) (v := (.slice (some ⟨gg, 0, none⟩) k' cp)) (d := some 28) rfl (by kernel_rfl) (by kernel_rfl) (by kernel_rfl) (by kernel_rfl) (fun _ _ _ h => h) (Or.inl ⟨by kernel_rfl, fun w9 hw9 => by (go_simp)⟩) hHeld ?_
              try simp only [Act.put, List.setIfInBounds_toArray, List.set_cons_zero, List.set_cons_succ]
              refine take_d (i := 11) (v := (.slice (some ⟨gg, 0, none⟩) k' cp)) (d := some 29) rfl (by kernel_rfl) (by kernel_rfl) (by kernel_rfl) (by kernel_rfl) (fun _ _ _ h => h) (Or.inl ⟨by kernel_rfl, fun w9 hw9 => by (go_simp)⟩) hHeld ?_
              try simp only [Act.put, List.setIfInBounds_toArray, List.set_cons_zero, List.set_cons_succ]
              refine take_d (i := 12) (v := (.int .i64 k')) (d := some 30) rfl (by kernel_rfl) (by kernel_rfl) (by kernel_rfl) (by kernel_rfl) (fun _ _ _ h => h) (Or.inl ⟨by kernel_rfl, fun w9 hw9 => by (go_simp)⟩) hHeld ?_
              try simp only [Act.put, List.setIfInBounds_toArray, List.set_cons_zero, List.set_cons_succ]
              refine take_d (i := 13) (v := (.int .i64 j1)) (d := some 31) rfl (by kernel_rfl) (by kernel_rfl) (by kernel_rfl) (by kernel_rfl) (fun _ _ _ h => h) (Or.inl ⟨by kernel_rfl, fun w9 hw9 => by (go_simp)⟩) hHeld ?_
              try simp only [Act.put, List.setIfInBounds_toArray, List.set_cons_zero, List.set_cons_succ]
              refine take_d (i := 14) (v := (.pointer (some ⟨gg, j1 * 2, none⟩))) (d := some 32) rfl (by kernel_rfl) (by kernel_rfl) (by kernel_rfl) (by kernel_rfl) (fun _ _ _ h => h) (Or.inl ⟨by kernel_rfl, fun w9 hw9 => by (go_simp)⟩) hHeld ?_
              try simp only [Act.put, List.setIfInBounds_toArray, List.set_cons_zero, List.set_cons_succ]
              refine take_d (i := 15) (v := (.agg #[.int .i64 m.x, .int .i64 m.y])) (d := some 33) rfl (by kernel_rfl) (by kernel_rfl) (by kernel_rfl) (by kernel_rfl) (fun _ _ _ h => h) (Or.inl ⟨by kernel_rfl, fun w9 hw9 => by (obtain ⟨a0, a1, a2, a3, a4, a5⟩ := hw9; go_simp)⟩) hHeld ?_
              try simp only [Act.put, List.setIfInBounds_toArray, List.set_cons_zero, List.set_cons_succ]
              refine take_d (i := 16) (v := (.agg #[.int .i64 p.x, .int .i64 p.y])) (d := some 34) rfl (by kernel_rfl) (by kernel_rfl) (by kernel_rfl) (by kernel_rfl) (fun _ _ _ h => h) (Or.inl ⟨by kernel_rfl, fun w9 hw9 => by (obtain ⟨a0, a1, a2, a3, a4, a5⟩ := hw9; go_simp)⟩) hHeld ?_
              try simp only [Act.put, List.setIfInBounds_toArray, List.set_cons_zero, List.set_cons_succ]
              try simp only [Act.put, List.setIfInBounds_toArray, List.set_cons_zero, List.set_cons_succ]
              refine wpAnyH_ready (rs := [17]) (by kernel_rfl) (by simp) ?_
              refine AllReadyH.cons rfl (fun K hK => ?_) AllReadyH.nil
              go_simp
              refine (CT.out _).mono ?_
              rintro e w6 ⟨rfl, hb6⟩
              have HB6 := Lib.hid (show Below wr.heap.size wr w6 from (((Below.refl wr.heap.size wr).drew).trans hb6))
              clear hb6
              refine hK.out _ _ (⟨(HB6.out.cell (p := ⟨gg, j * 2, none⟩) ggl).trans y0, (HB6.out.cell (p := ⟨gg, j * 2 + 1, none⟩) ggl).trans y1, (HB6.out.cell (p := ⟨gg, j1 * 2, none⟩) ggl).trans y2, (HB6.out.cell (p := ⟨gg, j1 * 2 + 1, none⟩) ggl).trans y3, (HB6.out.cell (p := ⟨bx, 0, none⟩) hbl).trans x0, (HB6.out.cell (p := ⟨bx, 1, none⟩) hbl).trans x1⟩) (fun hHeld2 => ?_)
              clear hK K hHeld
              have hHeld := hHeld2
              try simp only [Act.put, List.setIfInBounds_toArray, List.set_cons_zero, List.set_cons_succ]
              refine take_d (i := 18) (v := (.bool T)) (d := some 36) rfl (by kernel_rfl) (by kernel_rfl) (by kernel_rfl) (by kernel_rfl) (fun _ _ _ h => h) (Or.inl ⟨by kernel_rfl, fun w9 hw9 => by (go_simp)⟩) hHeld ?_
              try simp only [Act.put, List.setIfInBounds_toArray, List.set_cons_zero, List.set_cons_succ]
              refine take_d (i := 19) (v := (.bool T)) (d := some 37) rfl (by kernel_rfl) (by kernel_rfl) (by kernel_rfl) (by kernel_rfl) (fun _ _ _ h => h) (Or.inl ⟨by kernel_rfl, fun w9 hw9 => by (go_simp)⟩) hHeld ?_
              try simp only [Act.put, List.setIfInBounds_toArray, List.set_cons_zero, List.set_cons_succ]
              refine wpAnyH_done (by kernel_rfl) ?_ _
              try simp only [Act.put, List.setIfInBounds_toArray, List.set_cons_zero, List.set_cons_succ]
              obtain ⟨-, -, -, -, x0, x1⟩ := hHeld
              have HO6 := Lib.hid (own_below HOx.out HB6.out)
              have HBe := Lib.hid (HBx.out.trans (HB6.out.mono HBx.out.size))
              have hbl6 : bx < w6.heap.size := Nat.lt_of_lt_of_le hbl HB6.out.size
              clear y0 y1 y2 y3 CT HOx HB6 t2 t8 t9 ggl
              cases T
              · have HDr := Lib.hid (show dropP p st = m :: s :: r by
                  rw [← HD.out]
                  have := of_decide_eq_false HT.out
                  unfold dropP
                  rw [if_neg (by rw [HTv.out]; exact this)])
                clear hT2
                go_wp2_with fail
                go_meet
                case rel => exact ⟨k', some ⟨gg, 0, none⟩, cp, rfl, by rw [HDr.out]; exact HKx.out, by rw [HDr.out]; exact HO6.out, x0, x1, hbl6, HBe.out⟩
              · have HDr := Lib.hid (show dropP p (s :: r) = dropP p st by
                  rw [← HD.out]
                  have := of_decide_eq_true HT.out
                  conv => rhs; unfold dropP
                  rw [if_pos (by rw [HTv.out]; exact this)])
                have HO7 := Lib.hid (own_pop (k := j1) (L := (s :: r).reverse) (m := m) (by have := HO6.out; rw [hkj.out] at this; simpa using this) (by have := hkj.out; have := HKx.out; simp at this ⊢; omega))
                have HLn := Lib.hid (show (s :: r).length = j1 by have := hkj.out; have := HKx.out; simp at this ⊢; omega)
                have HMr := Lib.hid (show ∀ q ∈ s :: r, ptB q = true from fun q hq => HMx.out q (List.mem_cons_of_mem _ hq))
                have t10 : j1 ≤ cp := by omega
                have t11 : (j1 : Int) ≤ (k' : Int) := by omega
                have t12 : (k' : Int) ≤ (cp : Int) := by omega
                have t13 : (j1 : Int) ≤ (cp : Int) := by omega
                clear hT2
                go_wp2_with fail
                go_roundw
                case rel => exact ⟨s :: r, j1, some ⟨gg, 0, none⟩, cp, rfl, HLn.out, hjk, HDr.out, HMr.out, HO7.out, x0, x1, hbl6, HBe.out⟩
                case measure => go_light; simp [lenV]; omega
        case rest =>
          obtain ⟨k', A', c', rfl, hk', ho', x0, x1, hbl, hB'⟩ := hcut
          obtain ⟨w7, hw7⟩ : ∃ x : World, x = wc := ⟨_, rfl⟩
          subst hw7
          have HO7 := Lib.hid ho'
          have HB7 := Lib.hid hB'
          have HK7 := Lib.hid hk'
          have hz7 := hB'.size
          have hk60 : k' ≤ 60 := by have := (drop_suf p st).length_le; have := HK.out; omega
          clear ho' hB' hk' v0 v1 vl HO5 HB5
          go_wp2_with (at_builtin; refine wpList_append_own _ rfl _ _ 27 rfl w3.heap.size 29 i0 (.agg #[.int .i64 0, .int .i64 0]) 2 16 Tryd.underlying27 hi hz0 hz1 hz2 rfl (by decide) _ _ _ rfl (HO7.out.alloc _) ⟨w7.heap.size, 0, none⟩ 1 1 (RPoint.cells p) rfl rfl (cell_newAt w7 (RPoint.cells p) _ _ rfl) (point_one p) (by unfold maxLen; omega) (by omega) (by simp; omega) ?_; intro v' w8 ho8 hg8 _)
          have hb8 : Below w3.heap.size w3 w8 := (HB7.out.alloc hz7 (.cells (RPoint.cells p).toArray 29)).grown hg8 (by simp; omega) (fun k hk => (HO7.out.lt k hk).1)
          have HB8 := Lib.hid hb8
          have HO8 := Lib.hid (show w8.ownsRow w3.heap.size 29 2 v' (k' + 1) ((chainP ((compX es).take (i + 1))).reverse.flatMap RPoint.cells) by rw [HCh.out]; unfold pushP; simpa using ho8)
          have HL8 := Lib.hid (show (chainP ((compX es).take (i + 1))).length = k' + 1 by rw [HCh.out]; unfold pushP; rw [List.length_cons, HK7.out])
          clear ho8 hg8 hb8
          obtain ⟨g9, c9, rfl⟩ : ∃ g9 c9, v' = .slice (some ⟨g9, 0, none⟩) (k' + 1) c9 := by
            rcases HO8.out.2 with ⟨_, h⟩ | ⟨g', cp, cur, he, _⟩
            · omega
            · exact ⟨g', cp, he⟩
          go_roundw
          case rel => exact ⟨i + 1, k' + 1, some ⟨g9, 0, none⟩, c9, by go_num, by omega, rfl, HL8.out, HO8.out, HB8.out⟩
          case measure => go_light; simp [intOf]; omega
      · obtain rfl : i = N := by omega
        have hall : (compX es).take i = compX es := List.take_of_length_le (by rw [HN.out]; exact Nat.le_refl _)
        have HHl := Lib.hid (chain_hull HP.out HO.out)
        rw [hall] at HO1 HK
        obtain ⟨A9, n9, c9, he9, hI9⟩ := own_recs RPoint.cells RPoint.ok 2 (fun _ => rfl) (zs := (chainP (compX es)).reverse) (by rw [List.length_reverse, HK.out]; exact HO1.out) (fun z hz => by
          have := ptB_iff.1 (hcok.out z (chain_mem _ z (List.mem_reverse.1 hz)))
          unfold RPoint.ok i64B; omega)
        cases he9
        have HI9 := Lib.hid hI9
        have hkn : k ≤ n := by have := chain_len (compX es); have := HK.out; have := HN.out; omega
        clear hI9 hall
        go_wp2_with fail
        refine bodyPost_ret (v := .slice A k c) (by simp [results, Tryd.results16, go_sem]) rfl ?_
        exact ⟨_, A, k, c, rfl, HI9.out, HHl.out, hkn, HB3.out.trans (HB4.out.mono hz3)⟩
end Go.Proofs.YtdjkhagdckhijaaDoor
