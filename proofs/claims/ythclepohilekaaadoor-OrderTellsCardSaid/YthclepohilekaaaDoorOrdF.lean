/- noonref2.Times, noonref2.Each; order.ready, Could, Times, walked. -/
import Derived.Test.YthclepohilekaaaDoorOrdE
namespace Go.Proofs.YthclepohilekaaaDoor
open Go.RowKit
set_option linter.unusedVariables false
set_option linter.unusedSimpArgs false
set_option maxRecDepth 100000 in
set_option maxHeartbeats 8000000 in
theorem r2_Times (A : Option Addr) (n c : Nat) (zs : List REvent) (D : Option Addr) (m d : Nat) (o : List Int) (w : World) (h : IsRecs w REvent.cells REvent.ok 3 A n c zs) (g : IsInts w D m d o) (hr : ∀ z ∈ zs, evR z = true) (ho : ∀ x ∈ o, 0 ≤ x ∧ x < (n : Int)) (h12 : m ≤ 12) :
    Calls Tryd.prog 14 #[.slice A n c, .slice D m d] w (TimesRet zs o w) := by
  obtain ⟨i0, hi0, hz0, hz1, hz2⟩ := info_parts infoI
  obtain ⟨l1, l2, l3, l4, l5⟩ := h
  obtain ⟨m1, m2, m3, m4, m5⟩ := g
  unfold maxLen at l3 m3
  have HE := Lib.hid (fun hp : 0 < n => by obtain ⟨b, off, e, hb, hc⟩ := l5 hp; exact (⟨b, off, e, hb, fun wr hB i hi => ev_cells hb hc l1 wr hB i hi⟩ : ∃ b off, A = some ⟨b, off, none⟩ ∧ b < w.heap.size ∧ ∀ wr, Below w.heap.size w wr → ∀ i, i < n → wr.cell? ⟨b, off + i * 3 + 1, none⟩ = some (.int .i64 (zs.getD i default).lo) ∧ wr.cell? ⟨b, off + i * 3 + 1 + 1, none⟩ = some (.int .i64 (zs.getD i default).hi)))
  have M5 := Lib.hid m5
  have M1 := Lib.hid m1
  have HOr := Lib.hid ho
  have HI64 := Lib.hid (tmL_i64 hr (by rw [l1]; exact ho) (Nat.le_refl o.length))
  have HIF := Lib.hid (fun k (hk : k < m) => show 0 ≤ o.getD k 0 ∧ o.getD k 0 < (n : Int) from by
    have : o[k]? = some (o.getD k 0) := by rw [List.getD_eq_getElem?_getD, List.getElem?_eq_getElem (by omega : k < o.length)]; rfl
    exact ho _ (List.mem_of_getElem? this))
  have HB6 := Lib.hid (fun k (hk : k < m) => show -1000000000000 ≤ tmAt zs o k ∧ tmAt zs o k ≤ 1000000000000 from by
    obtain ⟨_, j, hj, e⟩ := tmAt_max zs o k
    have hjo : o[j]? = some (o.getD j 0) := by rw [List.getD_eq_getElem?_getD, List.getElem?_eq_getElem (by omega : j < o.length)]; rfl
    have h3 := ho _ (List.mem_of_getElem? hjo)
    have hz : evAt zs o j ∈ zs := by
      unfold evAt
      rw [List.getD_eq_getElem?_getD, List.getElem?_eq_getElem (by omega : (o.getD j 0).toNat < zs.length)]
      exact List.getElem_mem _
    have := rightB_iff.1 (hr _ hz)
    rw [e]; omega)
  have HYes := Lib.hid (fun (hh : tmOk zs o m) => couldB_iff.2 (by rw [m1]; exact hh))
  have HNo := Lib.hid (fun k (hk : k < m) (hh : ¬ tmAt zs o k ≤ (evAt zs o k).hi) => show couldB zs o = false from by
    cases e : couldB zs o
    · rfl
    · exact absurd (couldB_iff.1 e k (by rw [m1]; exact hk)) hh)
  clear l1 l4 l5 m1 m4 m5 hr ho
  go_enter Tryd.func14, Tryd.ntmps14
  go_wp2_with fail
  go_loopw [6, 7] (fun ov kv wr => ∃ (k : Nat) (ys : List Int), kv = .int .i64 k ∧ k ≤ m ∧ ys = tmL zs o k ∧ tmOk zs o k ∧ wr.ownsRow w.heap.size 3 1 ov ys.length (ys.flatMap intCells) ∧ Below w.heap.size w wr) (fun _ kv _ => m - (intOf kv).toNat)
  case atStart => exact ⟨0, [], rfl, by omega, rfl, fun i hi => absurd hi (by omega), own_nil _ _ _ _, Below.refl _ _⟩
  case round =>
    obtain ⟨k, ys, rfl, hk, hys, hok, ho, hB⟩ := hrel
    have HO := Lib.hid ho
    have HY := Lib.hid hys
    have HB := Lib.hid hB
    have HOK := Lib.hid hok
    have hlen : ys.length = k := by rw [hys, tmL_len]
    have hzw := hB.size
    clear ho hys hB hok
    by_cases d1 : k < m
    · obtain ⟨b2, off2, rfl, hb2, hc2⟩ := M5.out (by omega)
      obtain ⟨r1, r2⟩ := HIF.out k d1
      obtain ⟨e, he⟩ : ∃ e : Nat, o.getD k 0 = (e : Int) := ⟨(o.getD k 0).toNat, by omega⟩
      have hoz : o[k]? = some (e : Int) := by rw [← he, List.getD_eq_getElem?_getD, List.getElem?_eq_getElem (by rw [M1.out]; omega : k < o.length)]; rfl
      have xo : wr.cell? ⟨b2, off2 + k, none⟩ = some (.int .i64 (e : Int)) := (HB.out.cell (p := ⟨b2, off2 + k, none⟩) hb2).trans (by simpa using hc2 k _ hoz 0 _ rfl)
      rw [he] at r1 r2
      have hen : e < n := by omega
      obtain ⟨b, off, rfl, hb, hcell⟩ := HE.out (by omega)
      obtain ⟨x1, x2⟩ := hcell wr HB.out e hen
      have hev : evAt zs o k = zs.getD e default := by unfold evAt; rw [he]; rfl
      have HNk := Lib.hid (HNo.out k d1)
      have HBk := HB6.out k d1
      rw [hev] at HNk
      have HS0 := Lib.hid (show k = 0 → tmAt zs o k = (zs.getD e default).lo from fun h => by subst h; show (evAt zs o 0).lo = _; rw [hev])
      have HS1 := Lib.hid (show ∀ j, k = j + 1 → tmAt zs o k = max (zs.getD e default).lo (tmAt zs o j) from fun j h => by subst h; show max (evAt zs o (j + 1)).lo (tmAt zs o j) = _; rw [hev])
      have HOKn := Lib.hid (fun (hh : tmAt zs o k ≤ (zs.getD e default).hi) => show tmOk zs o (k + 1) from fun i hi => by
        rcases (by omega : i = k ∨ i < k) with rfl | h
        · rw [hev]; exact hh
        · exact HOK.out i h)
      obtain ⟨lo, hlo⟩ : ∃ lo, (zs.getD e default).lo = lo := ⟨_, rfl⟩
      obtain ⟨hi, hhi⟩ : ∃ hi, (zs.getD e default).hi = hi := ⟨_, rfl⟩
      rw [hlo] at x1 HS0 HS1
      rw [hhi] at x2 HNk HOKn
      have HTk := Lib.hid (show tmL zs o (k + 1) = tmL zs o k ++ [tmAt zs o k] from rfl)
      obtain ⟨T, hT⟩ : ∃ T, tmAt zs o k = T := ⟨_, rfl⟩
      rw [hT] at HNk HBk HS0 HS1 HOKn HTk
      clear hc2 hcell he hoz hev hlo hhi hT HNo HB6 HI64 HYes HIF HE M5
      rcases Nat.eq_zero_or_pos k with hk0 | hk0
      · obtain rfl : T = lo := HS0.out hk0
        have hkz : ¬ (0 : Int) < (k : Int) := by omega
        clear HS0 HS1 hk0
        by_cases ct : T ≤ hi
        · have HN := Lib.hid (HOKn.out ct)
          have ct' : ¬ hi < T := by omega
          as_aux_lemma =>
            go_wp2_with (at_builtin; refine wpList_append_own _ rfl _ _ 23 rfl w.heap.size 3 i0 (.int .i64 0) 1 8 Tryd.underlying23 hi0 hz0 hz1 hz2 rfl (by decide) _ _ _ rfl (HO.out.alloc _) ⟨wr.heap.size, 0, none⟩ 1 1 _ rfl rfl (cell_newAt wr (intCells T) _ _ rfl) (int_one _) (by unfold maxLen; omega) (by omega) (by simp; omega) ?_; intro v' w1 ho1 hg1 _)
            have HB2 := Lib.hid (show Below w.heap.size w w1 from (HB.out.alloc (by omega) _).grown hg1 (by simp; omega) (fun q hq => (HO.out.lt q hq).1))
            have HO2 := Lib.hid (own_snoc intCells (z := T) ho1)
            clear ho1 hg1
            go_wp2_with fail
            go_roundw
            case rel => exact ⟨k + 1, ys ++ [T], by go_num, by omega, by rw [HTk.out, HY.out], HN.out, HO2.out, HB2.out⟩
            case measure => go_light; simp [intOf]; omega
        · have HN := Lib.hid (HNk.out (by omega))
          have ct' : hi < T := by omega
          as_aux_lemma =>
            go_wp2_with fail
            go_ret2
            exact ⟨none, 0, 0, by rw [HN.out]; rfl, by rw [HN.out]; exact ints_nil _, HB.out⟩
      · obtain ⟨j, hkj⟩ : ∃ j, k = j + 1 := ⟨k - 1, by omega⟩
        have hS := HS1.out j hkj
        obtain ⟨q, cap, rfl, hq1, hq2, hq3, hq4, hq5⟩ := own_ints HO.out (by omega)
        obtain ⟨U, hU⟩ : ∃ U, tmAt zs o j = U := ⟨_, rfl⟩
        have y0 : wr.cell? ⟨q, j, none⟩ = some (.int .i64 U) := hq5 j U (by rw [HY.out, tmL_get zs o k j (by omega), hU])
        rw [hU] at hS
        have HO := Lib.hid (show wr.ownsRow w.heap.size 3 1 (.slice (some ⟨q, 0, none⟩) k cap) ys.length (ys.flatMap intCells) from by have := HO.out; rw [hlen] at this ⊢; exact this)
        have HLn := Lib.hid hlen
        rw [hlen] at hq3 ⊢
        have hkz : (0 : Int) < (k : Int) := by omega
        have hjz : (k : Int) - 1 = (j : Int) := by omega
        have hj1 : (0 : Int) ≤ (j : Int) := by omega
        have hj2 : (j : Int) < (k : Int) := by omega
        unfold maxLen at hq4
        have HJ := Lib.hid hkj
        have hyl : ys.length ≤ 12 := by omega
        clear hq5 HS0 HS1 hU hk0 hkj hlen
        by_cases cu : lo < U
        · obtain rfl : T = U := by omega
          clear hS
          by_cases ct : T ≤ hi
          · have HN := Lib.hid (HOKn.out ct)
            have ct' : ¬ hi < T := by omega
            as_aux_lemma =>
              go_wp2_with (at_builtin; refine wpList_append_own _ rfl _ _ 23 rfl w.heap.size 3 i0 (.int .i64 0) 1 8 Tryd.underlying23 hi0 hz0 hz1 hz2 rfl (by decide) _ _ _ rfl (HO.out.alloc _) ⟨wr.heap.size, 0, none⟩ 1 1 _ rfl rfl (cell_newAt wr (intCells T) _ _ rfl) (int_one _) (by unfold maxLen; omega) (by omega) (by simp; omega) ?_; intro v' w1 ho1 hg1 _)
              have HB2 := Lib.hid (show Below w.heap.size w w1 from (HB.out.alloc (by omega) _).grown hg1 (by simp; omega) (fun q hq => (HO.out.lt q hq).1))
              have HO2 := Lib.hid (own_snoc intCells (z := T) ho1)
              clear ho1 hg1
              go_wp2_with fail
              go_roundw
              case rel => exact ⟨k + 1, ys ++ [T], by go_num, by omega, by rw [HTk.out, HY.out], HN.out, HO2.out, HB2.out⟩
              case measure => go_light; simp [intOf]; omega
          · have HN := Lib.hid (HNk.out (by omega))
            have ct' : hi < T := by omega
            as_aux_lemma =>
              go_wp2_with fail
              go_ret2
              exact ⟨none, 0, 0, by rw [HN.out]; rfl, by rw [HN.out]; exact ints_nil _, HB.out⟩
        · obtain rfl : T = lo := by omega
          clear hS
          by_cases ct : T ≤ hi
          · have HN := Lib.hid (HOKn.out ct)
            have ct' : ¬ hi < T := by omega
            as_aux_lemma =>
              go_wp2_with (at_builtin; refine wpList_append_own _ rfl _ _ 23 rfl w.heap.size 3 i0 (.int .i64 0) 1 8 Tryd.underlying23 hi0 hz0 hz1 hz2 rfl (by decide) _ _ _ rfl (HO.out.alloc _) ⟨wr.heap.size, 0, none⟩ 1 1 _ rfl rfl (cell_newAt wr (intCells T) _ _ rfl) (int_one _) (by unfold maxLen; omega) (by omega) (by simp; omega) ?_; intro v' w1 ho1 hg1 _)
              have HB2 := Lib.hid (show Below w.heap.size w w1 from (HB.out.alloc (by omega) _).grown hg1 (by simp; omega) (fun q hq => (HO.out.lt q hq).1))
              have HO2 := Lib.hid (own_snoc intCells (z := T) ho1)
              clear ho1 hg1
              go_wp2_with fail
              go_roundw
              case rel => exact ⟨k + 1, ys ++ [T], by go_num, by omega, by rw [HTk.out, HY.out], HN.out, HO2.out, HB2.out⟩
              case measure => go_light; simp [intOf]; omega
          · have HN := Lib.hid (HNk.out (by omega))
            have ct' : hi < T := by omega
            as_aux_lemma =>
              go_wp2_with fail
              go_ret2
              exact ⟨none, 0, 0, by rw [HN.out]; rfl, by rw [HN.out]; exact ints_nil _, HB.out⟩
    · obtain rfl : k = m := by omega
      have hc := HYes.out HOK.out
      have hy : ys = tmL zs o o.length := by rw [HY.out, M1.out]
      have HO2 := HO.out
      rw [hy] at HO2
      obtain ⟨B, p, q, rfl, hI⟩ := own_recs intCells i64B 1 (fun _ => rfl) HO2 HI64.out
      have HF := Lib.hid (show TimesRet zs o w (.returned (.tuple #[.slice B p q, .bool true])) wr from ⟨B, p, q, by rw [hc], by rw [if_pos hc]; exact hI, HB.out⟩)
      clear hI hc hy HO HO2 hlen
      go_wp2_with fail
      go_ret2
      exact HF.out
theorem take_memI {zs : List Int} {i : Nat} {z x : Int} (h : zs[i]? = some z) (hx : x ∈ zs.take (i + 1)) : x ∈ zs.take i ∨ x = z := by
  rw [List.take_add_one, h] at hx
  simpa using hx
theorem nodup_more {zs : List Int} {i : Nat} {z : Int} (h : zs[i]? = some z) (hd : (zs.take i).Nodup) (hn : ∀ x ∈ zs.take i, x ≠ z) : (zs.take (i + 1)).Nodup := by
  rw [List.take_add_one, h]
  show (zs.take i ++ [z]).Nodup
  rw [List.nodup_append]
  exact ⟨hd, by simp, fun a ha b hb => by simp at hb; subst hb; exact hn a ha⟩
theorem each_no1 {n : Nat} {o : List Int} {i : Nat} {z : Int} (h : o[i]? = some z) (hz : z < 0 ∨ (n : Int) ≤ z) : eachB n o = false := by
  cases e : eachB n o
  · rfl
  · have := (eachB_iff.1 e).2.1 z (List.mem_of_getElem? h); omega
theorem each_no2 {n : Nat} {o : List Int} {i j : Nat} {z : Int} (h : o[i]? = some z) (g : o[j]? = some z) (hij : j < i) : eachB n o = false := by
  cases e : eachB n o
  · rfl
  · exfalso
    have hd := (eachB_iff.1 e).2.2
    have hi := (List.getElem?_eq_some_iff.1 h).1
    have hj := (List.getElem?_eq_some_iff.1 g).1
    have := List.pairwise_iff_getElem.1 hd j i hj hi hij
    rw [List.getElem?_eq_getElem hi] at h
    rw [List.getElem?_eq_getElem hj] at g
    exact this ((Option.some.inj g).trans (Option.some.inj h).symm)
set_option maxRecDepth 100000 in
set_option maxHeartbeats 8000000 in
theorem r2_Each (n : Nat) (D : Option Addr) (m d : Nat) (o : List Int) (w : World) (g : IsInts w D m d o) (h12 : n ≤ 12) :
    Calls Tryd.prog 13 #[.int .i64 n, .slice D m d] w fun e w' => e = .returned (.bool (eachB n o)) ∧ Below w.heap.size w w' := by
  obtain ⟨m1, m2, m3, m4, m5⟩ := g
  unfold maxLen at m3
  have M1 := Lib.hid m1
  have M5 := Lib.hid m5
  clear m1 m4 m5
  by_cases dm : m = n
  · subst dm
    have HYES := Lib.hid (show (∀ x ∈ o.take m, 0 ≤ x ∧ x < (m : Int)) → (o.take m).Nodup → eachB m o = true from fun h1 h2 => by
      rw [List.take_of_length_le (by rw [M1.out]; omega)] at h1 h2
      exact eachB_iff.2 ⟨M1.out, h1, h2⟩)
    have bm : ((m : Int) == (m : Int)) = true := by simp
    go_enter Tryd.func13, Tryd.ntmps13
    go_wp2_with fail
    go_loopw [5] (fun iv wr => ∃ i : Nat, iv = .int .i64 i ∧ i ≤ m ∧ (∀ x ∈ o.take i, 0 ≤ x ∧ x < (m : Int)) ∧ (o.take i).Nodup ∧ Below w.heap.size w wr) (fun iv _ => m - (intOf iv).toNat)
    case atStart => exact ⟨0, rfl, by omega, fun x hx => by simp at hx, by simp, Below.refl _ _⟩
    case round =>
      obtain ⟨i, rfl, hi, hR, hD, hB⟩ := hrel
      have HR := Lib.hid hR
      have HD := Lib.hid hD
      have HB := Lib.hid hB
      clear hR hD
      by_cases d1 : i < m
      · obtain ⟨b, off, rfl, hb, hc⟩ := M5.out (by omega)
        obtain ⟨z, hz⟩ : ∃ z, o[i]? = some z := ⟨_, List.getElem?_eq_getElem (by rw [M1.out]; omega)⟩
        have x0 : wr.cell? ⟨b, off + i, none⟩ = some (.int .i64 z) := (hB.cell (p := ⟨b, off + i, none⟩) hb).trans (by simpa using hc i z hz 0 _ rfl)
        have HC := Lib.hid (show ∀ w', Below w.heap.size w w' → ∀ k y, o[k]? = some y → w'.cell? ⟨b, off + k, none⟩ = some (.int .i64 y) from fun w' hB k y hy => (hB.cell (p := ⟨b, off + k, none⟩) hb).trans (by simpa using hc k y hy 0 _ rfl))
        have HZ := Lib.hid hz
        clear hc hz hB
        rcases (by omega : z < 0 ∨ (¬ z < 0 ∧ (m : Int) ≤ z) ∨ (¬ z < 0 ∧ ¬ (m : Int) ≤ z)) with c1 | ⟨c1, c2⟩ | ⟨c1, c2⟩
        · have HN := Lib.hid (each_no1 (n := m) HZ.out (.inl c1))
          as_aux_lemma =>
            go_wp2_with fail
            go_ret
            exact ⟨by rw [HN.out]; rfl, HB.out⟩
        · have HN := Lib.hid (each_no1 (n := m) HZ.out (.inr c2))
          as_aux_lemma =>
            go_wp2_with fail
            go_ret
            exact ⟨by rw [HN.out]; rfl, HB.out⟩
        · have HR2 := Lib.hid (show ∀ x ∈ o.take (i + 1), 0 ≤ x ∧ x < (m : Int) from fun x hx => by
            rcases take_memI HZ.out hx with hx | rfl
            · exact HR.out x hx
            · omega)
          go_wp2_with fail
          obtain ⟨wo, rfl⟩ : ∃ wo : World, wo = wr := ⟨_, rfl⟩
          go_loopw [6] (fun jv wr => ∃ j : Nat, jv = .int .i64 j ∧ j ≤ i ∧ (∀ x ∈ o.take j, x ≠ z) ∧ Below w.heap.size w wr) (fun jv _ => i - (intOf jv).toNat)
          case atStart => exact ⟨0, rfl, by omega, fun x hx => by simp at hx, HB.out⟩
          case round =>
            obtain ⟨j, rfl, hj, hN, hB⟩ := hrel
            have HNe := Lib.hid hN
            have HBr := Lib.hid hB
            clear hN x0
            by_cases d2 : j < i
            · obtain ⟨y, hy⟩ : ∃ y, o[j]? = some y := ⟨_, List.getElem?_eq_getElem (by rw [M1.out]; omega)⟩
              have y0 := HC.out wr hB j y hy
              have x0 := HC.out wr hB i z HZ.out
              have HYv := Lib.hid hy
              have q0 : (0 : Int) ≤ (j : Int) := by omega
              have q1 : (j : Int) < (m : Int) := by omega
              have q2 : (0 : Int) ≤ (i : Int) := by omega
              have q3 : (i : Int) < (m : Int) := by omega
              clear hy hB
              by_cases ce : y = z
              · have HN := Lib.hid (each_no2 (n := m) HZ.out (by rw [← ce]; exact HYv.out) d2)
                have be : (y == z) = true := by simp [ce]
                clear ce
                as_aux_lemma =>
                  go_wp2_with fail
                  go_quiet (fail)
                  go_wp2_with fail
                  go_ret
                  exact ⟨by rw [HN.out]; rfl, below_drewN HBr.out _⟩
              · have HN2 := Lib.hid (show ∀ x ∈ o.take (j + 1), x ≠ z from fun x hx => by
                  rcases take_memI HYv.out hx with hx | rfl
                  · exact HNe.out x hx
                  · exact ce)
                have be : (y == z) = false := by simp [ce]
                clear ce
                as_aux_lemma =>
                  go_wp2_with fail
                  go_quiet (fail)
                  go_wp2_with fail
                  go_roundw
                  case rel => exact ⟨j + 1, by go_num, by omega, HN2.out, below_drewN HBr.out _⟩
                  case measure => simp [intOf]; omega
            · obtain rfl : j = i := by omega
              have HD2 := Lib.hid (nodup_more HZ.out HD.out HNe.out)
              as_aux_lemma =>
                go_wp2_with fail
                go_roundw
                case rel => exact ⟨j + 1, by go_num, by omega, HR2.out, HD2.out, HBr.out⟩
                case measure => simp [intOf]; omega
      · obtain rfl : i = m := by omega
        have HN := Lib.hid (HYES.out HR.out HD.out)
        go_wp2_with fail
        go_ret
        exact ⟨by rw [HN.out]; rfl, HB.out⟩
  · have HN := Lib.hid (show eachB n o = false from by
      cases e : eachB n o
      · rfl
      · exact absurd (M1.out.symm.trans (eachB_iff.1 e).1) dm)
    have bm : ((m : Int) == (n : Int)) = false := by simp; omega
    have bm2 : ((m : Int) != (n : Int)) = true := by simp; omega
    go_enter Tryd.func13, Tryd.ntmps13
    go_wp2_with fail
    go_ret
    exact ⟨by rw [HN.out]; rfl, Below.refl _ _⟩
/-- what is wrong with events and an order. -/
def readyC (zs : List REvent) (o : List Int) : Int := if evC zs = 0 then (if eachB zs.length o = true then 0 else 3) else evC zs
set_option maxRecDepth 100000 in
set_option maxHeartbeats 8000000 in
theorem order_ready (A : Option Addr) (n c : Nat) (zs : List REvent) (D : Option Addr) (m d : Nat) (o : List Int) (w : World) (h : IsRecs w REvent.cells REvent.ok 3 A n c zs) (g : IsInts w D m d o) (hm8 : m * 8 ≤ 140737488351232) :
    Calls Tryd.prog 19 #[.slice A n c, .slice D m d] w fun e w' => e = .returned (errV (readyC zs o)) ∧ Below w.heap.size w w' := by
  have CK := order_Check A n c zs w h
  have l2 := h.2.1
  have l3 := h.2.2.1
  have m2 := g.2.1
  have m3 := g.2.2.1
  unfold maxLen at l3 m3
  have L1 := Lib.hid h.1
  have M1 := Lib.hid g.1
  by_cases e0 : evC zs = 0
  · have hn12 : n ≤ 12 := by rw [← L1.out]; exact (evC_0 e0).1
    rw [e0, errV_0] at CK
    have CK := Lib.hid CK
    have HRC := Lib.hid (show readyC zs o = if eachB n o = true then 0 else 3 from by unfold readyC; rw [if_pos e0, L1.out])
    have CV := Lib.hid (fun W => values_boxA D m d W)
    have CS := Lib.hid (fun W Bs0 (hb : Below w.heap.size w W) hB0 hBs => sorted_any D m d Bs0 o W (IsRecs.below g hb) hm8 hB0 hBs)
    clear h g e0
    go_enter Tryd.func19, Tryd.ntmps19
    go_wp2_with fail
    refine CK.out.mono ?_
    rintro e w1 ⟨rfl, hb1⟩
    have hz1 := hb1.size
    have HB1 := Lib.hid hb1
    clear hb1
    go_wp2_with fail
    refine (CV.out _).mono ?_
    rintro e w2 ⟨rfl, rfl⟩
    go_wp2_with fail
    refine (CS.out _ w1.heap.size (HB1.out.alloc hz1 _) (by simp) (by simp)).mono ?_
    rintro e w3 ⟨A', n', c', rfl, hnm, hI, hb3⟩
    subst hnm
    have HB3 := Lib.hid ((HB1.out.alloc hz1 _).trans (hb3.mono (by simp; omega)))
    obtain ⟨i1, i2, i3, i4, i5⟩ := hI
    unfold maxLen at i3
    have I1 := Lib.hid i1
    have I5 := Lib.hid i5
    clear i1 i4 i5 hb3 CV CS CK
    by_cases dm : n' = n
    · subst dm
      have bm : ((n' : Int) == (n' : Int)) = true := by simp
      go_wp2_with fail
      go_loopw [25] (fun iv wr => ∃ i : Nat, iv = .int .i64 i ∧ i ≤ n' ∧ (∀ k, k < i → (sortI o)[k]? = some (k : Int)) ∧ Below w.heap.size w wr ∧ wr = w3) (fun iv _ => n' - (intOf iv).toNat)
      case atStart => exact ⟨0, rfl, by omega, fun k hk => absurd hk (by omega), HB3.out, rfl⟩
      case round =>
        obtain ⟨i, rfl, hi, hK, hB, rfl⟩ := hrel
        have HK := Lib.hid hK
        have HB := Lib.hid hB
        clear hK hB
        by_cases d1 : i < n'
        · obtain ⟨b, off, rfl, hb, hc⟩ := I5.out (by omega)
          obtain ⟨z, hz⟩ : ∃ z, (sortI o)[i]? = some z := ⟨_, List.getElem?_eq_getElem (by rw [I1.out]; omega)⟩
          have x0 : wr.cell? ⟨b, off + i, none⟩ = some (.int .i64 z) := by simpa using hc i z hz 0 _ rfl
          have HZ := Lib.hid hz
          clear hc hz
          by_cases ce : (i : Int) = z
          · have HK2 := Lib.hid (show ∀ k, k < i + 1 → (sortI o)[k]? = some (k : Int) from fun k hk => by
              rcases (by omega : k = i ∨ k < i) with rfl | h
              · rw [ce]; exact HZ.out
              · exact HK.out k h)
            have be : ((i : Int) == z) = true := by simp [ce]
            have be2 : ((i : Int) != z) = false := by simp [ce]
            clear ce
            as_aux_lemma =>
              go_wp2_with fail
              go_roundw
              case rel => exact ⟨i + 1, by go_num, by omega, HK2.out, HB.out, trivial⟩
              case measure => simp [intOf]; omega
          · have HN := Lib.hid (show readyC zs o = 3 from by
              rw [HRC.out, if_neg]
              intro he
              have hs : sortI o = iotaL n' := of_decide_eq_true he
              have := HZ.out
              rw [hs, iotaL_get d1] at this
              exact ce (Option.some.inj this))
            have be : ((i : Int) == z) = false := by simp [ce]
            have be2 : ((i : Int) != z) = true := by simp [ce]
            clear ce
            as_aux_lemma =>
              go_wp2_with fail
              go_ret
              exact ⟨by rw [HN.out]; simp [errV], HB.out⟩
        · obtain rfl : i = n' := by omega
          have HN := Lib.hid (show readyC zs o = 0 from by
            rw [HRC.out, if_pos]
            refine decide_eq_true (List.ext_getElem? fun k => ?_)
            by_cases hk : k < i
            · rw [HK.out k hk, iotaL_get hk]
            · rw [List.getElem?_eq_none (by rw [I1.out]; omega), List.getElem?_eq_none (by rw [iotaL_len]; omega)])
          go_wp2_with fail
          go_ret
          exact ⟨by rw [HN.out]; rfl, HB.out⟩
    · have HN := Lib.hid (show readyC zs o = 3 from by
        rw [HRC.out, if_neg]
        intro he
        have h1 := (eachB_iff.1 he).1
        rw [M1.out] at h1
        exact dm h1)
      have bm : ((n' : Int) == (n : Int)) = false := by simp; omega
      have bm2 : ((n' : Int) != (n : Int)) = true := by simp; omega
      go_wp2_with fail
      go_ret
      exact ⟨by rw [HN.out]; simp [errV], HB3.out⟩
  · obtain ⟨E, hE⟩ : ∃ E, evC zs = E := ⟨_, rfl⟩
    have HN := Lib.hid (show readyC zs o = E from by unfold readyC; rw [if_neg e0, hE])
    rw [hE] at CK e0
    rw [errV_ne e0] at CK
    have HE := Lib.hid e0
    have CK := Lib.hid CK
    clear h g e0 hE
    go_enter Tryd.func19, Tryd.ntmps19
    go_wp2_with fail
    refine CK.out.mono ?_
    rintro e w1 ⟨rfl, hb1⟩
    go_wp2_with fail
    go_ret
    exact ⟨by rw [HN.out, errV_ne HE.out]; rfl, hb1⟩
end Go.Proofs.YthclepohilekaaaDoor
