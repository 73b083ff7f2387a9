/- loops.Room, noonref1.Room, walked. -/
import Derived.Test.YtccjomkgfadidaaDoorLoops
namespace Go.Proofs.YtccjomkgfadidaaDoor
open Go.RowKit
set_option linter.unusedVariables false
set_option linter.unusedSimpArgs false
set_option maxRecDepth 100000 in
set_option maxHeartbeats 4000000 in
theorem loops_Room (N : Int) (A : Option Addr) (n c : Nat) (zs : List REdge) (B : Option Addr) (m d : Nat) (loop : List Int) (w : World) (hz : IsRecs w REdge.cells REdge.ok 4 A n c zs) (hp : IsInts w B m d loop) :
    Calls Tryd.prog 8 #[.int .i64 N, .slice A n c, .slice B m d] w fun e w' => e = .returned (.tuple #[.int .i64 (roomX N zs loop), errV (roomE N zs loop)]) ∧ Below w.heap.size w w' := by
  obtain ⟨i0, hi, hz0, hz1, hz2⟩ := info_parts infoArc
  have C := Lib.hid (bounds_Check N A n c zs w hz)
  by_cases c0 : edgesC N zs = 0
  · obtain ⟨c4, c5, c6, c7⟩ := edgesC_0 c0
    have hx : roomX N zs loop = roomV zs loop := by unfold roomX; rw [if_pos c0]
    have hy : roomE N zs loop = roomC zs loop := by unfold roomE; rw [if_pos c0]
    rw [hx, hy]
    rw [c0] at C
    have hln := hz.1
    have hm1 := hz.2.1
    have hm2 := hz.2.2.1
    have hn1 := hp.2.1
    have hn2 := hp.2.2.1
    have hlm := hp.1
    unfold maxLen at hm2 hn2
    have HZ := Lib.hid hz
    have HP := Lib.hid hp
    have HL := Lib.hid c7
    have hn40 : n ≤ 40 := by omega
    clear hz hp c0 hx hy c7
    by_cases q0 : m = 0
    · have R := Lib.hid (show roomC zs loop = 5 ∧ roomV zs loop = 0 from by
        have h : roomC zs loop = 5 := by unfold roomC; rw [if_pos (by omega)]
        exact ⟨h, by unfold roomV; rw [if_neg (by omega)]⟩)
      rw [R.out.1, R.out.2]
      subst q0
      clear hlm
      go_enter Tryd.func8, Tryd.ntmps8
      go_wp2_with fail
      refine C.out.mono ?_
      rintro e w1 ⟨rfl, hb1⟩
      go_wp2_with fail
      go_ret2
      exact ⟨rfl, hb1⟩
    · by_cases q1 : 40 < m
      · have R := Lib.hid (show roomC zs loop = 4 ∧ roomV zs loop = 0 from by
          have h : roomC zs loop = 4 := by unfold roomC; rw [if_neg (by omega), if_pos (by omega)]
          exact ⟨h, by unfold roomV; rw [if_neg (by omega)]⟩)
        rw [R.out.1, R.out.2]
        clear hlm
        go_enter Tryd.func8, Tryd.ntmps8
        go_wp2_with fail
        refine C.out.mono ?_
        rintro e w1 ⟨rfl, hb1⟩
        go_wp2_with fail
        go_ret2
        exact ⟨rfl, hb1⟩
      · have HLM := Lib.hid hlm
        have b1 : ((m : Int) == 0) = false := by simp; omega
        have b2 : decide ((40 : Int) < (m : Int)) = false := by simp; omega
        clear hlm hln
        go_enter Tryd.func8, Tryd.ntmps8
        go_wp2_with fail
        refine C.out.mono ?_
        rintro e w1 ⟨rfl, hb1⟩
        have HB1 := Lib.hid hb1
        clear hb1
        go_wp2_with fail
        go_loopw [9, 10, 36] (fun ov rv kv wr => ∃ k : Nat, kv = .int .i64 k ∧ k ≤ m ∧ rv = .int .i64 (sumR (wayL zs (loop.take k))) ∧ (∀ s ∈ loop.take k, (stepArc zs s).isSome = true) ∧ wr.ownsRow w.heap.size 56 4 ov (wayL zs (loop.take k)).length ((wayL zs (loop.take k)).flatMap RArc.cells) ∧ Below w.heap.size w wr) (fun _ _ kv _ => m - (intOf kv).toNat)
        case atStart => exact ⟨0, rfl, by omega, rfl, fun s hs => by simp at hs, own_nil _ _ _ _, HB1.out⟩
        case round =>
          obtain ⟨k, rfl, hk, rfl, hs, ho, hB⟩ := hrel
          have hzw := hB.size
          have HB := Lib.hid hB
          have HS := Lib.hid hs
          have HWO := Lib.hid (wayL_ok HL.out hs)
          clear hB
          by_cases d1 : k < m
          · obtain ⟨s, hsk⟩ : ∃ s, loop[k]? = some s := ⟨_, List.getElem?_eq_getElem (by have := HLM.out; omega)⟩
            obtain ⟨pb, po, rfl, p1, p2⟩ := HP.out.2.2.2.2 (by omega)
            have x0 : wr.cell? ⟨pb, po + k, none⟩ = some (.int .i64 s) := by
              have h := p2 k s hsk 0 _ rfl
              rw [show po + k * 1 + 0 = po + k by omega] at h
              exact (HB.out.cell (p := ⟨pb, _, none⟩) p1).trans h
            have hsb := HP.out.2.2.2.1 s (List.mem_of_getElem? hsk)
            have k0 : (0 : Int) ≤ (k : Int) := by omega
            have k1 : (k : Int) < (m : Int) := by omega
            cases hst : stepArc zs s with
            | none =>
              have R := Lib.hid (room_bad (l := zs) (by have := HLM.out; omega) (by have := HLM.out; omega) hsk hst)
              have CA := Lib.hid (loops_arcOf_none hst (HZ.out.below HB.out) HL.out hn40 hsb)
              clear ho hs hst hsb hsk p2
              go_wp2_with fail
              refine CA.out.mono ?_
              rintro e w2 ⟨rfl, hb2⟩
              have HB2 := Lib.hid (HB.out.trans (hb2.mono HB.out.size))
              clear hb2
              go_wp2_with fail
              go_ret2
              exact ⟨by rw [R.out.1, R.out.2]; rfl, HB2.out.alloc HB2.out.size _⟩
            | some a =>
              have CA := Lib.hid (loops_arcOf_some hst (HZ.out.below HB.out) HL.out hn40 hsb)
              have HWS := Lib.hid (wayL_snoc hsk hst)
              have hbd := sumR_bd HWO.out.2
              have hab := arcs_ok HL.out a (step_mem hst).1
              have hlen : (wayL zs (loop.take k)).length = k := by simp [wayL]; have := HLM.out; omega
              obtain ⟨xs, hxs⟩ : ∃ xs, wayL zs (loop.take k) = xs := ⟨_, rfl⟩
              have HS2 := Lib.hid (show ∀ t ∈ loop.take (k + 1), (stepArc zs t).isSome = true from fun t ht => by
                rcases take_mem hsk ht with h | h
                · exact hs t h
                · subst h; rw [hst]; rfl)
              rw [hxs] at ho hbd hlen HWS ⊢
              have HSU := Lib.hid (sumR_snoc xs a)
              obtain ⟨S, hS⟩ : ∃ S, sumR xs = S := ⟨_, rfl⟩
              rw [hS] at hbd HSU ⊢
              have hS1 : -40000000000000 ≤ S := by omega
              have hS2 : S ≤ 40000000000000 := by omega
              have hr1 := hab.2.2.2.2.2.1
              have hr2 := hab.2.2.2.2.2.2
              have HO := Lib.hid ho
              have hle : xs.length ≤ 40 := by omega
              clear ho hs hst hsb hsk p2 hbd hab hxs hS hlen HWO HS
              go_wp2_with fail
              refine CA.out.mono ?_
              rintro e w2 ⟨rfl, hb2⟩
              have HB2 := Lib.hid (HB.out.trans (hb2.mono HB.out.size))
              have HO2 := Lib.hid (own_below HO.out hb2)
              have hs2 := HB2.out.size
              clear hb2 HO HB x0
              go_wp2_with (at_builtin; refine wpList_append_own _ rfl _ _ 54 rfl w.heap.size 56 i0 _ 4 32 Tryd.underlying54 hi hz0 hz1 hz2 rfl (by decide) _ _ _ rfl ((HO2.out.alloc _).alloc _) ⟨w2.heap.size + 1, 0, none⟩ 1 1 _ rfl rfl (cell_newAt (w2.alloc (.cells #[.int .i64 a.step, .int .i64 a.fr, .int .i64 a.to, .int .i64 a.room] 56)) (RArc.cells a) _ _ (by simp)) (arc_one _) (by unfold maxLen; omega) (by omega) (by simp; omega) ?_; intro v2 w4 ho4 hg4 _; have BA := (((Blk.new w2 56 #[.int .i64 a.step, .int .i64 a.fr, .int .i64 a.to, .int .i64 a.room]).alloc (.cells #[.int .i64 a.step, .int .i64 a.fr, .int .i64 a.to, .int .i64 a.room] 56)).grown hg4 (fun e => by have := (HO2.out.lt _ e.symm).2; omega)); have x3 := BA.cell 3; simp at x3; have xl := BA.lt)
              have oo := (HO2.out.alloc (.cells #[.int .i64 a.step, .int .i64 a.fr, .int .i64 a.to, .int .i64 a.room] 56)).alloc (.cells #[.int .i64 a.step, .int .i64 a.fr, .int .i64 a.to, .int .i64 a.room] 56)
              have HB4 := Lib.hid (Below.grown (by have := HB2.out; exact (by repeat (first | with_reducible exact Below.refl _ _ | (with_reducible refine Below.alloc ?_ (by first | omega | (simp; done) | (simp; omega)) _) | (with_reducible refine Below.setCell ?_ (by first | omega | (simp; done) | (simp; omega)) _) | (with_reducible refine Below.drew ?_) | (with_reducible refine below_drewN ?_ _) | (with_reducible assumption) | (with_reducible refine bel_step (by with_reducible assumption) ?_ (by first | omega | (simp; done) | (simp; omega)))))) hg4 (by simp; omega) (fun k hk => (oo.lt k hk).1) : Below w.heap.size w w4)
              have HO4 := Lib.hid (own_snoc RArc.cells (z := a) ho4)
              clear ho4 hg4 oo HO2 HB2 BA x3 xl
              go_roundw
              case rel => exact ⟨k + 1, by go_num, by omega, by rw [HWS.out, HSU.out], HS2.out, by rw [HWS.out]; exact HO4.out, HB4.out⟩
              case measure => simp [intOf]; omega
          · obtain rfl : k = m := by omega
            have htk : loop.take k = loop := List.take_of_length_le (by have := HLM.out; omega)
            rw [htk] at ho hs HWO HS ⊢
            have hlen : (wayL zs loop).length = k := by simp [wayL]; exact HLM.out
            have hsb := sumR_bd HWO.out.2
            obtain ⟨S, hS⟩ : ∃ S, sumR (wayL zs loop) = S := ⟨_, rfl⟩
            have h0 : loop.length ≠ 0 := by have := HLM.out; omega
            have h40 : loop.length ≤ 40 := by have := HLM.out; omega
            have OP := Lib.hid (fun (j : Nat) (b : RArc) (hb : (wayL zs loop)[j]? = some b) (hne : b.fr ≠ prevTo (wayL zs loop) j) => room_open (l := zs) h0 h40 hs hb hne)
            have SH := Lib.hid (fun h => room_shut (l := zs) h0 h40 hs h)
            rw [hS] at hsb ⊢
            obtain ⟨L, hL⟩ : ∃ L, wayL zs loop = L := ⟨_, rfl⟩
            rw [hL] at ho hlen HWO OP SH hS
            have HSS := Lib.hid hS
            obtain ⟨V, vn, vc, rfl, hr⟩ := own_recs RArc.cells RArc.ok 4 (fun _ => rfl) ho (fun b hb => by
              have h1 := HWO.out.1 b hb
              exact arcs_okr HL.out (by omega) (by have := HZ.out.1; omega) b h1)
            have hvn : vn = k := by have := hr.1; omega
            subst hvn
            have HRV := Lib.hid hr
            have hr1 := hr.2.1
            have hr2 := hr.2.2.1
            unfold maxLen at hr2
            obtain ⟨vb, vo, rfl, v1, v2⟩ := hr.2.2.2.2 (by omega)
            obtain ⟨z, hz⟩ : ∃ z, L[vn - 1]? = some z := ⟨_, List.getElem?_eq_getElem (by omega)⟩
            have hp0 : prevTo L 0 = z.to := by unfold prevTo; rw [if_pos rfl, hlen, hz]; rfl
            have y2 : wr.cell? ⟨vb, vo + (vn - 1) * 4 + 2, none⟩ = some (.int .i64 z.to) := v2 (vn - 1) z hz 2 _ rfl
            have V2 := Lib.hid v2
            have HLEN := Lib.hid hlen
            have k0 : (0 : Int) ≤ (vn : Int) - 1 := by omega
            have k1 : (1 : Int) ≤ (vn : Int) := by omega
            have k2 : ((vn : Int) - 1).toNat = vn - 1 := by omega
            have k3 : ((vn : Int) - 1) < (vn : Int) := by omega
            have HP0 := Lib.hid hp0
            clear ho hr hs HWO hL hS v2 hz hlen hp0 hsb htk h0 h40
            go_wp2_with fail
            clear y2
            go_loopw [15, 67] (fun av kv wx => ∃ k : Nat, kv = .int .i64 k ∧ k ≤ vn ∧ av = .int .i64 (prevTo L k) ∧ (∀ j, j < k → ∀ b, L[j]? = some b → b.fr = prevTo L j) ∧ IsRecs wx RArc.cells RArc.ok 4 (some ⟨vb, vo, none⟩) vn vc L ∧ Below w.heap.size w wx) (fun _ kv _ => vn - (intOf kv).toNat)
            case atStart => exact ⟨0, rfl, by omega, by rw [HP0.out], fun j hj => absurd hj (by omega), HRV.out, HB.out⟩
            case round =>
              obtain ⟨k, rfl, hk, rfl, hj, hr, hB⟩ := hrel
              have HBX := Lib.hid hB
              have HR := Lib.hid hr
              have HJ := Lib.hid hj
              have hzx := hB.size
              clear hB hj
              by_cases d2 : k < vn
              · obtain ⟨b, hbk⟩ : ∃ b, L[k]? = some b := ⟨_, List.getElem?_eq_getElem (by have := HLEN.out; omega)⟩
                obtain ⟨vb', vo', e, u1, u2⟩ := hr.2.2.2.2 (by omega)
                cases e
                have y0 : wr.cell? ⟨vb, vo + k * 4, none⟩ = some (.int .i64 b.step) := u2 k b hbk 0 _ rfl
                have y1 : wr.cell? ⟨vb, vo + k * 4 + 1, none⟩ = some (.int .i64 b.fr) := u2 k b hbk 1 _ rfl
                have y2 : wr.cell? ⟨vb, vo + k * 4 + 2, none⟩ = some (.int .i64 b.to) := u2 k b hbk 2 _ rfl
                have y3 : wr.cell? ⟨vb, vo + k * 4 + 3, none⟩ = some (.int .i64 b.room) := u2 k b hbk 3 _ rfl
                have q0 : (0 : Int) ≤ (k : Int) := by omega
                have q1' : (k : Int) < (vn : Int) := by omega
                have HPS := Lib.hid (prevTo_succ hbk)
                by_cases e : b.fr = prevTo L k
                · have HJ2 := Lib.hid (show ∀ j, j < k + 1 → ∀ b, L[j]? = some b → b.fr = prevTo L j from fun j hj b' hb' => by
                    by_cases f : j = k
                    · subst f; rw [hbk] at hb'; cases hb'; exact e
                    · exact HJ.out j (by omega) b' hb')
                  have e1 : (b.fr != prevTo L k) = false := by simpa using e
                  clear hbk u2 hr e
                  go_wp2_with fail
                  go_roundw
                  case rel => exact ⟨k + 1, by go_num, by omega, by rw [HPS.out], HJ2.out, HR.out.below (by repeat (first | with_reducible exact Below.refl _ _ | (with_reducible refine Below.alloc ?_ (by first | omega | (simp; done) | (simp; omega)) _) | (with_reducible refine Below.setCell ?_ (by first | omega | (simp; done) | (simp; omega)) _) | (with_reducible refine Below.drew ?_) | (with_reducible refine below_drewN ?_ _) | (with_reducible assumption) | (with_reducible refine bel_step (by with_reducible assumption) ?_ (by first | omega | (simp; done) | (simp; omega))))), by have := HBX.out; exact (by repeat (first | with_reducible exact Below.refl _ _ | (with_reducible refine Below.alloc ?_ (by first | omega | (simp; done) | (simp; omega)) _) | (with_reducible refine Below.setCell ?_ (by first | omega | (simp; done) | (simp; omega)) _) | (with_reducible refine Below.drew ?_) | (with_reducible refine below_drewN ?_ _) | (with_reducible assumption) | (with_reducible refine bel_step (by with_reducible assumption) ?_ (by first | omega | (simp; done) | (simp; omega)))))⟩
                  case measure => simp [intOf]; omega
                · have e1 : (b.fr != prevTo L k) = true := by simpa using e
                  have R := Lib.hid (OP.out k b hbk e)
                  clear hbk u2 hr e
                  go_wp2_with fail
                  go_ret2
                  exact ⟨by rw [R.out.1, R.out.2]; rfl, by have := HBX.out; exact (by repeat (first | with_reducible exact Below.refl _ _ | (with_reducible refine Below.alloc ?_ (by first | omega | (simp; done) | (simp; omega)) _) | (with_reducible refine Below.setCell ?_ (by first | omega | (simp; done) | (simp; omega)) _) | (with_reducible refine Below.drew ?_) | (with_reducible refine below_drewN ?_ _) | (with_reducible assumption) | (with_reducible refine bel_step (by with_reducible assumption) ?_ (by first | omega | (simp; done) | (simp; omega)))))⟩
              · obtain rfl : k = vn := by omega
                have R := Lib.hid (SH.out (by rw [HLM.out]; exact HJ.out))
                clear hr
                go_wp2_with fail
                go_ret2
                exact ⟨by rw [R.out.1, R.out.2, HSS.out]; rfl, HBX.out⟩
  · have hx : roomX N zs loop = 0 := by unfold roomX; rw [if_neg c0]
    have hy : roomE N zs loop = edgesC N zs := by unfold roomE; rw [if_neg c0]
    rw [hx, hy, errV_ne c0]
    rw [errV_ne c0] at C
    clear hz hp c0 hx hy
    go_enter Tryd.func8, Tryd.ntmps8
    go_wp2_with fail
    refine C.out.mono ?_
    rintro e w1 ⟨rfl, hb1⟩
    go_wp2_with fail
    go_ret2
    exact ⟨rfl, hb1⟩
set_option maxRecDepth 100000 in
set_option maxHeartbeats 4000000 in
theorem r1_Room (N : Nat) (A : Option Addr) (n c : Nat) (zs : List REdge) (B : Option Addr) (m d : Nat) (loop : List Int) (w : World) (hz : IsRecs w REdge.cells REdge.ok 4 A n c zs) (hl : EdgesOk N zs) (h6 : N ≤ 6) (hn : n ≤ 40) (hp : IsInts w B m d loop) :
    Calls Tryd.prog 7 #[.slice A n c, .slice B m d] w fun e w' => e = .returned (.tuple #[.int .i64 (roomV zs loop), .int .i64 (roomC zs loop)]) ∧ w = w' := by
  have hln := hz.1
  have hm1 := hz.2.1
  have hm2 := hz.2.2.1
  have hn1 := hp.2.1
  have hn2 := hp.2.2.1
  have hlm := hp.1
  unfold maxLen at hm2 hn2
  have HZ := Lib.hid hz
  have HP := Lib.hid hp
  have HL := Lib.hid hl
  have HLN := Lib.hid hln
  clear hz hp hl
  by_cases q0 : m = 0
  · have R := Lib.hid (show roomC zs loop = 5 ∧ roomV zs loop = 0 from by
      have h : roomC zs loop = 5 := by unfold roomC; rw [if_pos (by omega)]
      exact ⟨h, by unfold roomV; rw [if_neg (by omega)]⟩)
    rw [R.out.1, R.out.2]
    subst q0
    clear hlm hln
    go_enter Tryd.func7, Tryd.ntmps7
    go_wp2_with fail
    go_ret2
    exact ⟨rfl, rfl⟩
  · by_cases q1 : 40 < m
    · have R := Lib.hid (show roomC zs loop = 4 ∧ roomV zs loop = 0 from by
        have h : roomC zs loop = 4 := by unfold roomC; rw [if_neg (by omega), if_pos (by omega)]
        exact ⟨h, by unfold roomV; rw [if_neg (by omega)]⟩)
      rw [R.out.1, R.out.2]
      clear hlm hln
      go_enter Tryd.func7, Tryd.ntmps7
      go_wp2_with fail
      go_ret2
      exact ⟨rfl, rfl⟩
    · have HLM := Lib.hid hlm
      have b1 : ((m : Int) == 0) = false := by simp; omega
      have b2 : decide ((40 : Int) < (m : Int)) = false := by simp; omega
      have h0 : loop.length ≠ 0 := by omega
      have h40 : loop.length ≤ 40 := by omega
      have H040 := Lib.hid (And.intro h0 h40)
      obtain ⟨pb, po, rfl, p1, p2⟩ := HP.out.2.2.2.2 (by omega)
      have P2 := Lib.hid p2
      clear hlm hln h0 h40 p2
      go_enter Tryd.func7, Tryd.ntmps7
      go_wp2_with fail
      go_loop [6] (fun kv => ∃ k : Nat, kv = .int .i64 k ∧ k ≤ m ∧ (∀ s ∈ loop.take k, (stepArc zs s).isSome = true)) (fun kv => m - (intOf kv).toNat)
      case atStart => exact ⟨0, rfl, by omega, fun s hs => by simp at hs⟩
      case round =>
        obtain ⟨k, rfl, hk, hs⟩ := hrel
        have HS := Lib.hid hs
        clear hs
        by_cases d1 : k < m
        · have d1' : decide ((k : Int) < (m : Int)) = true := by simp; omega
          obtain ⟨s, hsk⟩ : ∃ s, loop[k]? = some s := ⟨_, List.getElem?_eq_getElem (by have := HLM.out; omega)⟩
          have x0 : w.cell? ⟨pb, po + k, none⟩ = some (.int .i64 s) := by
            have h := P2.out k s hsk 0 _ rfl
            rw [show po + k * 1 + 0 = po + k by omega] at h
            exact h
          have k0 : (0 : Int) ≤ (k : Int) := by omega
          have k1 : (k : Int) < (m : Int) := by omega
          by_cases hb : s = 0 ∨ (zs.length : Int) < s ∨ s < -(zs.length : Int)
          · have R := Lib.hid (room_bad (l := zs) H040.out.1 H040.out.2 hsk (step_none.2 hb))
            rw [HLN.out] at hb
            clear hsk
            rcases hb with rfl | hb | hb
            · go_wp2_with fail
              go_ret2
              exact ⟨by rw [R.out.1, R.out.2]; rfl, rfl⟩
            · have e1 : (s == 0) = false := by simp; omega
              go_wp2_with fail
              go_ret2
              exact ⟨by rw [R.out.1, R.out.2]; rfl, rfl⟩
            · have e1 : (s == 0) = false := by simp; omega
              have e2 : ¬ (n : Int) < s := by omega
              go_wp2_with fail
              go_ret2
              exact ⟨by rw [R.out.1, R.out.2]; rfl, rfl⟩
          · have HS2 := Lib.hid (show ∀ t ∈ loop.take (k + 1), (stepArc zs t).isSome = true from fun t ht => by
              rcases take_mem hsk ht with h | h
              · exact HS.out t h
              · subst h
                cases hh : stepArc zs t
                · exact absurd (step_none.1 hh) hb
                · rfl)
            rw [HLN.out] at hb
            have e1 : (s == 0) = false := by simp; omega
            have e2 : ¬ (n : Int) < s := by omega
            have e3 : ¬ s < -(n : Int) := by omega
            clear hsk hb
            go_wp2_with fail
            go_round
            case rel => exact ⟨k + 1, by go_num, by omega, HS2.out⟩
            case measure => simp [intOf]; omega
        · obtain rfl : k = m := by omega
          have hs := HS.out
          rw [List.take_of_length_le (by have := HLM.out; omega)] at hs
          have HA := Lib.hid hs
          have HWO := Lib.hid (wayL_ok HL.out hs)
          have NOT := Lib.hid (fun h => room_not (l := zs) H040.out.1 H040.out.2 hs h)
          have YES := Lib.hid (fun h => room_yes (l := zs) H040.out.1 H040.out.2 hs h)
          clear hs HS
          have d1' : decide ((k : Int) < (k : Int)) = false := by simp
          go_wp2_with fail
          go_loop [7, 8] (fun rv kv => ∃ j : Nat, kv = .int .i64 j ∧ j ≤ k ∧ rv = .int .i64 (sumR (wayL zs (loop.take j))) ∧ (∀ i, i < j → ∀ a b, (wayL zs loop)[i]? = some a → (wayL zs loop)[(i + 1) % (wayL zs loop).length]? = some b → b.fr = a.to)) (fun _ kv => k - (intOf kv).toNat)
          case atStart => exact ⟨0, rfl, by omega, rfl, fun i hi => absurd hi (by omega)⟩
          case round =>
            obtain ⟨j, rfl, hj, rfl, hi⟩ := hrel
            have HI := Lib.hid hi
            clear hi
            by_cases d2 : j < k
            · have d2' : decide ((j : Int) < (k : Int)) = true := by simp; omega
              obtain ⟨j2, hj2⟩ : ∃ q, (j + 1) % k = q := ⟨_, rfl⟩
              have hj3 : j2 < k := by rw [← hj2]; exact Nat.mod_lt _ (by omega)
              have emod : ((j : Int) + 1) % (k : Int) = (j2 : Int) := by rw [← hj2, Int.natCast_emod]; simp
              obtain ⟨s, hsk⟩ : ∃ s, loop[j]? = some s := ⟨_, List.getElem?_eq_getElem (by have := HLM.out; omega)⟩
              obtain ⟨t, htk⟩ : ∃ t, loop[j2]? = some t := ⟨_, List.getElem?_eq_getElem (by have := HLM.out; omega)⟩
              have x0 : w.cell? ⟨pb, po + j, none⟩ = some (.int .i64 s) := by
                have h := P2.out j s hsk 0 _ rfl
                rw [show po + j * 1 + 0 = po + j by omega] at h
                exact h
              have x1 : w.cell? ⟨pb, po + j2, none⟩ = some (.int .i64 t) := by
                have h := P2.out j2 t htk 0 _ rfl
                rw [show po + j2 * 1 + 0 = po + j2 by omega] at h
                exact h
              obtain ⟨a, ha⟩ := Option.isSome_iff_exists.1 (HA.out s (List.mem_of_getElem? hsk))
              obtain ⟨b, hb⟩ := Option.isSome_iff_exists.1 (HA.out t (List.mem_of_getElem? htk))
              have hla := wayL_at hsk ha
              have hlb := wayL_at htk hb
              have hlen : (wayL zs loop).length = k := by simp [wayL]; exact HLM.out
              rw [← hj2, ← hlen] at hlb
              have LK := Lib.hid (show (b.fr = a.to → ∀ i, i < j + 1 → ∀ a b, (wayL zs loop)[i]? = some a → (wayL zs loop)[(i + 1) % (wayL zs loop).length]? = some b → b.fr = a.to) ∧ (b.fr ≠ a.to → ¬ Around (wayL zs loop)) from
                ⟨fun e i hi a' b' h1 h2 => by
                  by_cases f : i = j
                  · subst f; rw [hla] at h1; rw [hlb] at h2; cases h1; cases h2; exact e
                  · exact HI.out i (by omega) a' b' h1 h2, fun e h => e (h j a b hla hlb)⟩)
              have HWS := Lib.hid (wayL_snoc hsk ha)
              have hbd := sumR_bd (n := N) (L := wayL zs (loop.take j)) (fun x hx => HWO.out.2 x (by
                unfold wayL at hx ⊢
                obtain ⟨u, hu, rfl⟩ := List.mem_map.1 hx
                exact List.mem_map.2 ⟨u, List.mem_of_mem_take hu, rfl⟩))
              have hlt : (wayL zs (loop.take j)).length = j := by simp [wayL]; have := HLM.out; omega
              rw [hlt] at hbd
              obtain ⟨S, hS⟩ : ∃ S, sumR (wayL zs (loop.take j)) = S := ⟨_, rfl⟩
              rw [hS] at hbd
              have HSU := Lib.hid (show sumR (wayL zs (loop.take (j + 1))) = S + a.room by rw [HWS.out, sumR_snoc, hS])
              rw [hS]
              have hS1 : -40000000000000 ≤ S := by omega
              have hS2 : S ≤ 40000000000000 := by omega
              have k0 : (0 : Int) ≤ (j : Int) := by omega
              have k1 : (j : Int) < (k : Int) := by omega
              have k2 : (0 : Int) ≤ (j2 : Int) := by omega
              have k3 : (j2 : Int) < (k : Int) := by omega
              have k4 : (1 : Int) ≤ (k : Int) := by omega
              have k5 : (k : Int) ≤ 40 := by omega
              have HA1 := Lib.hid ha
              have HB1 := Lib.hid hb
              have HEM := Lib.hid emod
              have EA : ∀ (u : Int) (f : RArc), stepArc zs u = some f → (0 < u ∧ u ≤ n ∧ ∃ q e, (u - 1).toNat = q ∧ f = arcF e q ∧ ∃ eb eo, A = some ⟨eb, eo, none⟩ ∧ w.cell? ⟨eb, eo + q * 4, none⟩ = some (.int .i64 e.a) ∧ w.cell? ⟨eb, eo + q * 4 + 1, none⟩ = some (.int .i64 e.b) ∧ w.cell? ⟨eb, eo + q * 4 + 2, none⟩ = some (.int .i64 e.lo) ∧ w.cell? ⟨eb, eo + q * 4 + 3, none⟩ = some (.int .i64 e.hi) ∧ -1000000000000 ≤ e.lo ∧ e.lo ≤ 1000000000000 ∧ -1000000000000 ≤ e.hi ∧ e.hi ≤ 1000000000000) ∨
                  (u < 0 ∧ -(n : Int) ≤ u ∧ ∃ q e, (-u - 1).toNat = q ∧ f = arcB e q ∧ ∃ eb eo, A = some ⟨eb, eo, none⟩ ∧ w.cell? ⟨eb, eo + q * 4, none⟩ = some (.int .i64 e.a) ∧ w.cell? ⟨eb, eo + q * 4 + 1, none⟩ = some (.int .i64 e.b) ∧ w.cell? ⟨eb, eo + q * 4 + 2, none⟩ = some (.int .i64 e.lo) ∧ w.cell? ⟨eb, eo + q * 4 + 3, none⟩ = some (.int .i64 e.hi) ∧ -1000000000000 ≤ e.lo ∧ e.lo ≤ 1000000000000 ∧ -1000000000000 ≤ e.hi ∧ e.hi ≤ 1000000000000) := by
                intro u f hf
                have fin : ∀ q e, zs[q]? = some e → ∃ eb eo, A = some ⟨eb, eo, none⟩ ∧ w.cell? ⟨eb, eo + q * 4, none⟩ = some (.int .i64 e.a) ∧ w.cell? ⟨eb, eo + q * 4 + 1, none⟩ = some (.int .i64 e.b) ∧ w.cell? ⟨eb, eo + q * 4 + 2, none⟩ = some (.int .i64 e.lo) ∧ w.cell? ⟨eb, eo + q * 4 + 3, none⟩ = some (.int .i64 e.hi) ∧ -1000000000000 ≤ e.lo ∧ e.lo ≤ 1000000000000 ∧ -1000000000000 ≤ e.hi ∧ e.hi ≤ 1000000000000 := fun q e hq => by
                  have hqn := (List.getElem?_eq_some_iff.1 hq).1
                  obtain ⟨eb, eo, h1, h2, h3⟩ := HZ.out.2.2.2.2 (by have := HLN.out; omega)
                  have he := HL.out e (List.mem_of_getElem? hq)
                  unfold edgeB at he
                  exact ⟨eb, eo, h1, h3 q e hq 0 _ rfl, h3 q e hq 1 _ rfl, h3 q e hq 2 _ rfl, h3 q e hq 3 _ rfl, by omega, by omega, by omega, by omega⟩
                have hno : ¬ (u = 0 ∨ (zs.length : Int) < u ∨ u < -(zs.length : Int)) := fun h => by rw [step_none.2 h] at hf; cases hf
                rw [HLN.out] at hno
                unfold stepArc at hf
                by_cases c1 : 0 < u
                · rw [if_pos c1] at hf
                  obtain ⟨e, he, rfl⟩ := Option.map_eq_some_iff.1 hf
                  exact .inl ⟨c1, by omega, _, e, rfl, rfl, fin _ e he⟩
                · rw [if_neg c1, if_pos (by omega)] at hf
                  obtain ⟨e, he, rfl⟩ := Option.map_eq_some_iff.1 hf
                  exact .inr ⟨by omega, by omega, _, e, rfl, rfl, fin _ e he⟩
              have EAS := Lib.hid (EA s a ha)
              have EAT := Lib.hid (EA t b hb)
              clear EA hsk htk ha hb hla hlb hlen hbd hlt hS hj2
              have emod := HEM.out
              go_upto_if 66 with fail
              clear emod
              go_cut [7, 10] (fun r u wx => u = .int .i64 a.to ∧ r = .int .i64 (S + a.room) ∧ w = wx)
              case first =>
                rcases EAS.out with ⟨c1, c2, q, e, hq, rfl, eb, eo, rfl, y0, y1, y2, y3, z1, z2, z3, z4⟩ | ⟨c1, c2, q, e, hq, rfl, eb, eo, rfl, y0, y1, y2, y3, z1, z2, z3, z4⟩
                · have c3 : (0 : Int) ≤ s - 1 := by omega
                  have c4 : s - 1 < (n : Int) := by omega
                  have c5 : decide (0 < s) = true := by simpa using c1
                  clear EAS EAT
                  go_wp2_with fail
                  go_meet
                  case rel => exact ⟨rfl, rfl, rfl⟩
                · have c3 : (0 : Int) ≤ -s - 1 := by omega
                  have c4 : -s - 1 < (n : Int) := by omega
                  have c5 : decide (0 < s) = false := by simp; omega
                  clear EAS EAT
                  go_wp2_with fail
                  go_meet
                  case rel => exact ⟨rfl, by show Value.int _ (S - e.lo) = Value.int _ (S + -e.lo); rw [Int.sub_eq_add_neg], rfl⟩
              case rest =>
                obtain ⟨rfl, rfl, hw⟩ := hcut
                subst hw
                go_upto_if 112 with fail
                go_cut [11] (fun u wx => u = .int .i64 b.fr ∧ w = wx)
                case first =>
                  rcases EAT.out with ⟨c1, c2, q, e, hq, rfl, eb, eo, rfl, y0, y1, y2, y3, z1, z2, z3, z4⟩ | ⟨c1, c2, q, e, hq, rfl, eb, eo, rfl, y0, y1, y2, y3, z1, z2, z3, z4⟩
                  · have c3 : (0 : Int) ≤ t - 1 := by omega
                    have c4 : t - 1 < (n : Int) := by omega
                    have c5 : decide (0 < t) = true := by simpa using c1
                    clear EAS EAT
                    go_wp2_with fail
                    go_meet
                    case rel => exact ⟨rfl, rfl⟩
                  · have c3 : (0 : Int) ≤ -t - 1 := by omega
                    have c4 : -t - 1 < (n : Int) := by omega
                    have c5 : decide (0 < t) = false := by simp; omega
                    clear EAS EAT
                    go_wp2_with fail
                    go_meet
                    case rel => exact ⟨rfl, rfl⟩
                case rest =>
                  obtain ⟨rfl, hw⟩ := hcut
                  subst hw
                  by_cases e : b.fr = a.to
                  · have e1 : (b.fr != a.to) = false := by simpa using e
                    have LL := Lib.hid (LK.out.1 e)
                    clear e
                    go_wp2_with fail
                    go_round
                    case rel => exact ⟨j + 1, by go_num, by omega, by rw [HSU.out], LL.out⟩
                    case measure => simp [intOf]; omega
                  · have e1 : (b.fr != a.to) = true := by simpa using e
                    have R := Lib.hid (NOT.out (LK.out.2 e))
                    clear e
                    go_wp2_with fail
                    go_ret2
                    exact ⟨by rw [R.out.1, R.out.2]; rfl, rfl⟩
            · obtain rfl : j = k := by omega
              have d2' : decide ((j : Int) < (j : Int)) = false := by simp
              have R := Lib.hid (YES.out (fun i a b h1 h2 => HI.out i (by have := (List.getElem?_eq_some_iff.1 h1).1; simp [wayL] at this; have := HLM.out; omega) a b h1 h2))
              have htk : loop.take j = loop := List.take_of_length_le (by have := HLM.out; omega)
              rw [htk]
              clear htk
              go_wp2_with fail
              go_ret2
              exact ⟨by rw [R.out.1, R.out.2]; rfl, rfl⟩
end Go.Proofs.YtccjomkgfadidaaDoor
