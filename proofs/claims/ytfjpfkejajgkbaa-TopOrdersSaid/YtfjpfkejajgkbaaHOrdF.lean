/- noonref2.Times, noonref2.Each; order.ready, Could, Times, walked. -/
import Derived.Test.YtfjpfkejajgkbaaHOrdE
namespace Go.Proofs.Ytfjpfkejajgkbaa
open Go.RowKit
set_option linter.unusedVariables false
set_option linter.unusedSimpArgs false
/-- what is wrong with events and an order. -/
def readyC (zs : List REvent) (o : List Int) : Int := if evC zs = 0 then (if eachB zs.length o = true then 0 else 3) else evC zs
set_option maxRecDepth 100000 in
set_option maxHeartbeats 8000000 in
theorem order_ready (A : Option Addr) (n c : Nat) (zs : List REvent) (D : Option Addr) (m d : Nat) (o : List Int) (w : World) (h : IsRecs w REvent.cells REvent.ok 3 A n c zs) (g : IsInts w D m d o) (hm8 : m * 8 ≤ 140737488351232) :
    Calls Try.prog 35 #[.slice A n c, .slice D m d] w fun e w' => e = .returned (errV (readyC zs o)) ∧ Below w.heap.size w w' := by
  have CK := order_Check A n c zs w h
  have l2 := h.2.1
  have l3 := h.2.2.1
  have m2 := g.2.1
  have m3 := g.2.2.1
  unfold maxLen at l3 m3
  have L1 := Lib.hid h.1
  have M1 := Lib.hid g.1
  by_cases e0 : evC zs = 0
  · have hn12 : n ≤ 12 := by rw [← L1.out]; exact (evC_0 e0).1
    rw [e0, errV_0] at CK
    have CK := Lib.hid CK
    have HRC := Lib.hid (show readyC zs o = if eachB n o = true then 0 else 3 from by unfold readyC; rw [if_pos e0, L1.out])
    have CV := Lib.hid (fun W => values_boxA D m d W)
    have CS := Lib.hid (fun W Bs0 (hb : Below w.heap.size w W) hB0 hBs => sorted_any D m d Bs0 o W (IsRecs.below g hb) hm8 hB0 hBs)
    clear h g e0
    go_enter Try.func35, Try.ntmps35
    go_wp2_with fail
    refine CK.out.mono ?_
    rintro e w1 ⟨rfl, hb1⟩
    have hz1 := hb1.size
    have HB1 := Lib.hid hb1
    clear hb1
    go_wp2_with fail
    refine (CV.out _).mono ?_
    rintro e w2 ⟨rfl, rfl⟩
    go_wp2_with fail
    refine (CS.out _ w1.heap.size (HB1.out.alloc hz1 _) (by simp) (by simp)).mono ?_
    rintro e w3 ⟨A', n', c', rfl, hnm, hI, hb3⟩
    subst hnm
    have HB3 := Lib.hid ((HB1.out.alloc hz1 _).trans (hb3.mono (by simp; omega)))
    obtain ⟨i1, i2, i3, i4, i5⟩ := hI
    unfold maxLen at i3
    have I1 := Lib.hid i1
    have I5 := Lib.hid i5
    clear i1 i4 i5 hb3 CV CS CK
    by_cases dm : n' = n
    · subst dm
      have bm : ((n' : Int) == (n' : Int)) = true := by simp
      go_wp2_with fail
      go_loopw [25] (fun iv wr => ∃ i : Nat, iv = .int .i64 i ∧ i ≤ n' ∧ (∀ k, k < i → (sortI o)[k]? = some (k : Int)) ∧ Below w.heap.size w wr ∧ wr = w3) (fun iv _ => n' - (intOf iv).toNat)
      case atStart => exact ⟨0, rfl, by omega, fun k hk => absurd hk (by omega), HB3.out, rfl⟩
      case round =>
        obtain ⟨i, rfl, hi, hK, hB, rfl⟩ := hrel
        have HK := Lib.hid hK
        have HB := Lib.hid hB
        clear hK hB
        by_cases d1 : i < n'
        · obtain ⟨b, off, rfl, hb, hc⟩ := I5.out (by omega)
          obtain ⟨z, hz⟩ : ∃ z, (sortI o)[i]? = some z := ⟨_, List.getElem?_eq_getElem (by rw [I1.out]; omega)⟩
          have x0 : wr.cell? ⟨b, off + i, none⟩ = some (.int .i64 z) := by simpa using hc i z hz 0 _ rfl
          have HZ := Lib.hid hz
          clear hc hz
          by_cases ce : (i : Int) = z
          · have HK2 := Lib.hid (show ∀ k, k < i + 1 → (sortI o)[k]? = some (k : Int) from fun k hk => by
              rcases (by omega : k = i ∨ k < i) with rfl | h
              · rw [ce]; exact HZ.out
              · exact HK.out k h)
            have be : ((i : Int) == z) = true := by simp [ce]
            have be2 : ((i : Int) != z) = false := by simp [ce]
            clear ce
            as_aux_lemma =>
              go_wp2_with fail
              go_roundw
              case rel => exact ⟨i + 1, by go_num, by omega, HK2.out, HB.out, trivial⟩
              case measure => simp [intOf]; omega
          · have HN := Lib.hid (show readyC zs o = 3 from by
              rw [HRC.out, if_neg]
              intro he
              have hs : sortI o = iotaL n' := of_decide_eq_true he
              have := HZ.out
              rw [hs, iotaL_get d1] at this
              exact ce (Option.some.inj this))
            have be : ((i : Int) == z) = false := by simp [ce]
            have be2 : ((i : Int) != z) = true := by simp [ce]
            clear ce
            as_aux_lemma =>
              go_wp2_with fail
              go_ret
              exact ⟨by rw [HN.out]; simp [errV], HB.out⟩
        · obtain rfl : i = n' := by omega
          have HN := Lib.hid (show readyC zs o = 0 from by
            rw [HRC.out, if_pos]
            refine decide_eq_true (List.ext_getElem? fun k => ?_)
            by_cases hk : k < i
            · rw [HK.out k hk, iotaL_get hk]
            · rw [List.getElem?_eq_none (by rw [I1.out]; omega), List.getElem?_eq_none (by rw [iotaL_len]; omega)])
          go_wp2_with fail
          go_ret
          exact ⟨by rw [HN.out]; rfl, HB.out⟩
    · have HN := Lib.hid (show readyC zs o = 3 from by
        rw [HRC.out, if_neg]
        intro he
        have h1 := (eachB_iff.1 he).1
        rw [M1.out] at h1
        exact dm h1)
      have bm : ((n' : Int) == (n : Int)) = false := by simp; omega
      have bm2 : ((n' : Int) != (n : Int)) = true := by simp; omega
      go_wp2_with fail
      go_ret
      exact ⟨by rw [HN.out]; simp [errV], HB3.out⟩
  · obtain ⟨E, hE⟩ : ∃ E, evC zs = E := ⟨_, rfl⟩
    have HN := Lib.hid (show readyC zs o = E from by unfold readyC; rw [if_neg e0, hE])
    rw [hE] at CK e0
    rw [errV_ne e0] at CK
    have HE := Lib.hid e0
    have CK := Lib.hid CK
    clear h g e0 hE
    go_enter Try.func35, Try.ntmps35
    go_wp2_with fail
    refine CK.out.mono ?_
    rintro e w1 ⟨rfl, hb1⟩
    go_wp2_with fail
    go_ret
    exact ⟨by rw [HN.out, errV_ne HE.out]; rfl, hb1⟩
end Go.Proofs.Ytfjpfkejajgkbaa
