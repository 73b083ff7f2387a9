/- order.Surely, times, ready, Could, Times; noonref2.Each, Times, walked. -/
import Derived.Test.YtfjpfkejajgkbaaHOrdD
import Derived.Test.YtfjpfkejajgkbaaHSortAny
import Derived.Test.YtfjpfkejajgkbaaHOrderQ
namespace Go.Proofs.Ytfjpfkejajgkbaa
open Go.RowKit
set_option linter.unusedVariables false
set_option linter.unusedSimpArgs false
/-- the times, or none. -/
def TimesRet (zs : List REvent) (o : List Int) (w : World) (e : Ending) (w' : World) : Prop :=
  ∃ B m d, e = .returned (.tuple #[.slice B m d, .bool (couldB zs o)]) ∧ IsInts w' B m d (if couldB zs o = true then tmL zs o o.length else []) ∧ Below w.heap.size w w'
theorem ev_cells {w : World} {b off n : Nat} {zs : List REvent} (hb : b < w.heap.size) (hc : ∀ i z, zs[i]? = some z → ∀ j u, (REvent.cells z)[j]? = some u → w.cell? ⟨b, off + i * 3 + j, none⟩ = some u) (hl : zs.length = n) (wr : World) (hB : Below w.heap.size w wr) (i : Nat) (hi : i < n) :
    wr.cell? ⟨b, off + i * 3 + 1, none⟩ = some (.int .i64 (zs.getD i default).lo) ∧ wr.cell? ⟨b, off + i * 3 + 1 + 1, none⟩ = some (.int .i64 (zs.getD i default).hi) := by
  have hz : zs[i]? = some (zs.getD i default) := by rw [List.getD_eq_getElem?_getD, List.getElem?_eq_getElem (by omega : i < zs.length)]; rfl
  exact ⟨(hB.cell (p := ⟨b, off + i * 3 + 1, none⟩) hb).trans (hc i _ hz 1 _ rfl), (hB.cell (p := ⟨b, off + i * 3 + 1 + 1, none⟩) hb).trans (hc i _ hz 2 _ rfl)⟩
theorem tmL_i64 {zs : List REvent} {o : List Int} (hr : ∀ z ∈ zs, evR z = true) (ho : ∀ x ∈ o, 0 ≤ x ∧ x < (zs.length : Int)) {k : Nat} (hk : k ≤ o.length) : ∀ x ∈ tmL zs o k, i64B x := by
  intro x hx
  obtain ⟨i, hi, rfl⟩ := List.getElem_of_mem hx
  rw [tmL_len] at hi
  have h1 := tmL_get zs o k i hi
  obtain ⟨_, j, hj, e⟩ := tmAt_max zs o i
  have h2 : (tmL zs o k)[i]'(by rw [tmL_len]; exact hi) = tmAt zs o i := by
    rw [List.getElem?_eq_getElem (by rw [tmL_len]; exact hi)] at h1
    exact Option.some.inj h1
  rw [h2, e]
  have hjo : o[j]? = some (o.getD j 0) := by rw [List.getD_eq_getElem?_getD, List.getElem?_eq_getElem (by omega : j < o.length)]; rfl
  have h3 := ho _ (List.mem_of_getElem? hjo)
  have hz : evAt zs o j ∈ zs := by
    unfold evAt
    rw [List.getD_eq_getElem?_getD, List.getElem?_eq_getElem (by omega : (o.getD j 0).toNat < zs.length)]
    exact List.getElem_mem _
  have := rightB_iff.1 (hr _ hz)
  unfold i64B; omega
set_option maxRecDepth 100000 in
set_option maxHeartbeats 8000000 in
theorem order_times (A : Option Addr) (n c : Nat) (zs : List REvent) (D : Option Addr) (m d : Nat) (o : List Int) (w : World) (h : IsRecs w REvent.cells REvent.ok 3 A n c zs) (g : IsInts w D m d o) (hr : ∀ z ∈ zs, evR z = true) (ho : ∀ x ∈ o, 0 ≤ x ∧ x < (n : Int)) (h12 : m ≤ 12) :
    Calls Try.prog 36 #[.slice A n c, .slice D m d] w (TimesRet zs o w) := by
  obtain ⟨i0, hi0, hz0, hz1, hz2⟩ := info_parts infoI
  obtain ⟨l1, l2, l3, l4, l5⟩ := h
  obtain ⟨m1, m2, m3, m4, m5⟩ := g
  unfold maxLen at l3 m3
  have HE := Lib.hid (fun hp : 0 < n => by obtain ⟨b, off, e, hb, hc⟩ := l5 hp; exact (⟨b, off, e, hb, fun wr hB i hi => ev_cells hb hc l1 wr hB i hi⟩ : ∃ b off, A = some ⟨b, off, none⟩ ∧ b < w.heap.size ∧ ∀ wr, Below w.heap.size w wr → ∀ i, i < n → wr.cell? ⟨b, off + i * 3 + 1, none⟩ = some (.int .i64 (zs.getD i default).lo) ∧ wr.cell? ⟨b, off + i * 3 + 1 + 1, none⟩ = some (.int .i64 (zs.getD i default).hi)))
  have M5 := Lib.hid m5
  have M1 := Lib.hid m1
  have HOr := Lib.hid ho
  have HI64 := Lib.hid (tmL_i64 hr (by rw [l1]; exact ho) (Nat.le_refl o.length))
  have HIF := Lib.hid (fun k (hk : k < m) => show 0 ≤ o.getD k 0 ∧ o.getD k 0 < (n : Int) from by
    have : o[k]? = some (o.getD k 0) := by rw [List.getD_eq_getElem?_getD, List.getElem?_eq_getElem (by omega : k < o.length)]; rfl
    exact ho _ (List.mem_of_getElem? this))
  have HB6 := Lib.hid (fun k (hk : k < m) => show -1000000000000 ≤ tmAt zs o k ∧ tmAt zs o k ≤ 1000000000000 from by
    obtain ⟨_, j, hj, e⟩ := tmAt_max zs o k
    have hjo : o[j]? = some (o.getD j 0) := by rw [List.getD_eq_getElem?_getD, List.getElem?_eq_getElem (by omega : j < o.length)]; rfl
    have h3 := ho _ (List.mem_of_getElem? hjo)
    have hz : evAt zs o j ∈ zs := by
      unfold evAt
      rw [List.getD_eq_getElem?_getD, List.getElem?_eq_getElem (by omega : (o.getD j 0).toNat < zs.length)]
      exact List.getElem_mem _
    have := rightB_iff.1 (hr _ hz)
    rw [e]; omega)
  have HYes := Lib.hid (fun (hh : tmOk zs o m) => couldB_iff.2 (by rw [m1]; exact hh))
  have HNo := Lib.hid (fun k (hk : k < m) (hh : ¬ tmAt zs o k ≤ (evAt zs o k).hi) => show couldB zs o = false from by
    cases e : couldB zs o
    · rfl
    · exact absurd (couldB_iff.1 e k (by rw [m1]; exact hk)) hh)
  clear l1 l4 l5 m1 m4 m5 hr ho
  go_enter Try.func36, Try.ntmps36
  go_wp2_with fail
  go_loopw [6, 12] (fun ov kv wr => ∃ (k : Nat) (ys : List Int), kv = .int .i64 k ∧ k ≤ m ∧ ys = tmL zs o k ∧ tmOk zs o k ∧ wr.ownsRow w.heap.size 3 1 ov ys.length (ys.flatMap intCells) ∧ Below w.heap.size w wr) (fun _ kv _ => m - (intOf kv).toNat)
  case atStart => exact ⟨0, [], rfl, by omega, rfl, fun i hi => absurd hi (by omega), own_nil _ _ _ _, Below.refl _ _⟩
  case round =>
    obtain ⟨k, ys, rfl, hk, hys, hok, ho, hB⟩ := hrel
    have HO := Lib.hid ho
    have HY := Lib.hid hys
    have HB := Lib.hid hB
    have HOK := Lib.hid hok
    have hlen : ys.length = k := by rw [hys, tmL_len]
    have hzw := hB.size
    clear ho hys hB hok
    by_cases d1 : k < m
    · obtain ⟨b2, off2, rfl, hb2, hc2⟩ := M5.out (by omega)
      obtain ⟨r1, r2⟩ := HIF.out k d1
      obtain ⟨e, he⟩ : ∃ e : Nat, o.getD k 0 = (e : Int) := ⟨(o.getD k 0).toNat, by omega⟩
      have hoz : o[k]? = some (e : Int) := by rw [← he, List.getD_eq_getElem?_getD, List.getElem?_eq_getElem (by rw [M1.out]; omega : k < o.length)]; rfl
      have xo : wr.cell? ⟨b2, off2 + k, none⟩ = some (.int .i64 (e : Int)) := (HB.out.cell (p := ⟨b2, off2 + k, none⟩) hb2).trans (by simpa using hc2 k _ hoz 0 _ rfl)
      rw [he] at r1 r2
      have hen : e < n := by omega
      obtain ⟨b, off, rfl, hb, hcell⟩ := HE.out (by omega)
      obtain ⟨x1, x2⟩ := hcell wr HB.out e hen
      have hev : evAt zs o k = zs.getD e default := by unfold evAt; rw [he]; rfl
      have HNk := Lib.hid (HNo.out k d1)
      have HBk := HB6.out k d1
      rw [hev] at HNk
      have HS0 := Lib.hid (show k = 0 → tmAt zs o k = (zs.getD e default).lo from fun h => by subst h; show (evAt zs o 0).lo = _; rw [hev])
      have HS1 := Lib.hid (show ∀ j, k = j + 1 → tmAt zs o k = max (zs.getD e default).lo (tmAt zs o j) from fun j h => by subst h; show max (evAt zs o (j + 1)).lo (tmAt zs o j) = _; rw [hev])
      have HOKn := Lib.hid (fun (hh : tmAt zs o k ≤ (zs.getD e default).hi) => show tmOk zs o (k + 1) from fun i hi => by
        rcases (by omega : i = k ∨ i < k) with rfl | h
        · rw [hev]; exact hh
        · exact HOK.out i h)
      obtain ⟨lo, hlo⟩ : ∃ lo, (zs.getD e default).lo = lo := ⟨_, rfl⟩
      obtain ⟨hi, hhi⟩ : ∃ hi, (zs.getD e default).hi = hi := ⟨_, rfl⟩
      rw [hlo] at x1 HS0 HS1
      rw [hhi] at x2 HNk HOKn
      have HTk := Lib.hid (show tmL zs o (k + 1) = tmL zs o k ++ [tmAt zs o k] from rfl)
      obtain ⟨T, hT⟩ : ∃ T, tmAt zs o k = T := ⟨_, rfl⟩
      rw [hT] at HNk HBk HS0 HS1 HOKn HTk
      clear hc2 hcell he hoz hev hlo hhi hT HNo HB6 HI64 HYes HIF HE M5
      rcases Nat.eq_zero_or_pos k with hk0 | hk0
      · obtain rfl : T = lo := HS0.out hk0
        have hkz : ¬ (0 : Int) < (k : Int) := by omega
        clear HS0 HS1 hk0
        by_cases ct : T ≤ hi
        · have HN := Lib.hid (HOKn.out ct)
          have ct' : ¬ hi < T := by omega
          as_aux_lemma =>
            go_wp2_with (at_builtin; refine wpList_append_own _ rfl _ _ 22 rfl w.heap.size 3 i0 (.int .i64 0) 1 8 Try.underlying22 hi0 hz0 hz1 hz2 rfl (by decide) _ _ _ rfl (HO.out.alloc _) ⟨wr.heap.size, 0, none⟩ 1 1 _ rfl rfl (cell_newAt wr (intCells T) _ _ rfl) (int_one _) (by unfold maxLen; omega) (by omega) (by simp; omega) ?_; intro v' w1 ho1 hg1 _)
            have HB2 := Lib.hid (show Below w.heap.size w w1 from (HB.out.alloc (by omega) _).grown hg1 (by simp; omega) (fun q hq => (HO.out.lt q hq).1))
            have HO2 := Lib.hid (own_snoc intCells (z := T) ho1)
            clear ho1 hg1
            go_wp2_with fail
            go_roundw
            case rel => exact ⟨k + 1, ys ++ [T], by go_num, by omega, by rw [HTk.out, HY.out], HN.out, HO2.out, HB2.out⟩
            case measure => go_light; simp [intOf]; omega
        · have HN := Lib.hid (HNk.out (by omega))
          have ct' : hi < T := by omega
          as_aux_lemma =>
            go_wp2_with fail
            go_ret2
            exact ⟨none, 0, 0, by rw [HN.out]; rfl, by rw [HN.out]; exact ints_nil _, HB.out⟩
      · obtain ⟨j, hkj⟩ : ∃ j, k = j + 1 := ⟨k - 1, by omega⟩
        have hS := HS1.out j hkj
        obtain ⟨q, cap, rfl, hq1, hq2, hq3, hq4, hq5⟩ := own_ints HO.out (by omega)
        obtain ⟨U, hU⟩ : ∃ U, tmAt zs o j = U := ⟨_, rfl⟩
        have y0 : wr.cell? ⟨q, j, none⟩ = some (.int .i64 U) := hq5 j U (by rw [HY.out, tmL_get zs o k j (by omega), hU])
        rw [hU] at hS
        have HO := Lib.hid (show wr.ownsRow w.heap.size 3 1 (.slice (some ⟨q, 0, none⟩) k cap) ys.length (ys.flatMap intCells) from by have := HO.out; rw [hlen] at this ⊢; exact this)
        obtain rfl : T = max lo U := hS
        have HLn := Lib.hid hlen
        rw [hlen] at hq3 ⊢
        have hkz : (0 : Int) < (k : Int) := by omega
        have hjz : (k : Int) - 1 = (j : Int) := by omega
        have hj1 : (0 : Int) ≤ (j : Int) := by omega
        have hj2 : (j : Int) < (k : Int) := by omega
        unfold maxLen at hq4
        have HJ := Lib.hid hkj
        have hyl : ys.length ≤ 12 := by omega
        clear hq5 HS0 HS1 hU hk0 hkj hlen
        by_cases ct : max lo U ≤ hi
        · have HN := Lib.hid (HOKn.out ct)
          as_aux_lemma =>
            go_wp2_with (at_builtin; refine wpList_append_own _ rfl _ _ 22 rfl w.heap.size 3 i0 (.int .i64 0) 1 8 Try.underlying22 hi0 hz0 hz1 hz2 rfl (by decide) _ _ _ rfl (HO.out.alloc _) ⟨wr.heap.size, 0, none⟩ 1 1 _ rfl rfl (cell_newAt wr (intCells (max lo U)) _ _ rfl) (int_one _) (by unfold maxLen; omega) (by omega) (by simp; omega) ?_; intro v' w1 ho1 hg1 _)
            have HB2 := Lib.hid (show Below w.heap.size w w1 from (HB.out.alloc (by omega) _).grown hg1 (by simp; omega) (fun q hq => (HO.out.lt q hq).1))
            have HO2 := Lib.hid (own_snoc intCells (z := max lo U) ho1)
            clear ho1 hg1
            go_wp2_with fail
            go_roundw
            case rel => exact ⟨k + 1, ys ++ [max lo U], by go_num, by omega, by rw [HTk.out, HY.out], HN.out, HO2.out, HB2.out⟩
            case measure => go_light; simp [intOf]; omega
        · have HN := Lib.hid (HNk.out (by omega))
          have ct' : hi < max lo U := by omega
          as_aux_lemma =>
            go_wp2_with fail
            go_ret2
            exact ⟨none, 0, 0, by rw [HN.out]; rfl, by rw [HN.out]; exact ints_nil _, HB.out⟩
    · obtain rfl : k = m := by omega
      have hc := HYes.out HOK.out
      have hy : ys = tmL zs o o.length := by rw [HY.out, M1.out]
      have HO2 := HO.out
      rw [hy] at HO2
      obtain ⟨B, p, q, rfl, hI⟩ := own_recs intCells i64B 1 (fun _ => rfl) HO2 HI64.out
      have HF := Lib.hid (show TimesRet zs o w (.returned (.tuple #[.slice B p q, .bool true])) wr from ⟨B, p, q, by rw [hc], by rw [if_pos hc]; exact hI, HB.out⟩)
      clear hI hc hy HO HO2 hlen
      go_wp2_with fail
      go_ret2
      exact HF.out
end Go.Proofs.Ytfjpfkejajgkbaa
