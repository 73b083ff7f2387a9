/- Package net: Show, Edges, walked. -/
import Derived.Test.YtfjpfkejajgkbaaDoorHNetA
import Derived.Test.YtfjpfkejajgkbaaDoorHG1
import Derived.Deep.Light
namespace Go.Proofs.YtfjpfkejajgkbaaDoor
open Go.RowKit
set_option linter.unusedVariables false
set_option linter.unusedSimpArgs false
/-- what a clock shows. -/
def hereAt (ss rs : List Int) (t : Int) (i : Nat) : Int := readV (ss.getD i 0) (rs.getD i 0) t
/-- the fault of the first k nodes' edges. -/
def netC (h : Nat → Int) (S : Nat → NSt) : Nat → Int
  | 0 => 0
  | k + 1 => if netC h S k = 0 then tellC (S k) (h k) else netC h S k
def netL (h : Nat → Int) (S : Nat → NSt) (k : Nat) : List REdge := (List.range k).flatMap fun i => tellE (S i) (h i)
def netE (h : Nat → Int) (S : Nat → NSt) (k : Nat) : List REdge := if netC h S k = 0 then netL h S k else []
theorem netL_succ (h : Nat → Int) (S : Nat → NSt) (k : Nat) : netL h S (k + 1) = netL h S k ++ tellE (S k) (h k) := by
  unfold netL; rw [List.range_succ, List.flatMap_append, List.flatMap_cons, List.flatMap_nil, List.append_nil]
theorem netC_stays {h : Nat → Int} {S : Nat → NSt} {k n : Nat} (hk : netC h S k ≠ 0) (hn : k ≤ n) : netC h S n = netC h S k := by
  induction n with
  | zero => have : k = 0 := by omega
            subst this; rfl
  | succ n ih =>
    by_cases c : k = n + 1
    · subst c; rfl
    · have := ih (by omega)
      show (if netC h S n = 0 then tellC (S n) (h n) else netC h S n) = netC h S k
      rw [if_neg (by rw [this]; exact hk), this]
theorem netL_len {h : Nat → Int} {S : Nat → NSt} {n : Nat} (hN : ∀ i, i < n → (S i).N = n) (k : Nat) (hk : k ≤ n) : (netL h S k).length ≤ k * n := by
  induction k with
  | zero => simp [netL]
  | succ k ih =>
    rw [netL_succ, List.length_append, Nat.succ_mul]
    have := ih (by omega)
    have := tellE_len (S k) (h k)
    rw [hN k (by omega)] at this
    omega
theorem hereAt_eq {ss rs : List Int} {t : Int} {i : Nat} {s r : Int} (hs : ss[i]? = some s) (hr : rs[i]? = some r) : hereAt ss rs t i = readV s r t := by
  unfold hereAt
  rw [List.getD_eq_getElem?_getD, List.getD_eq_getElem?_getD, hs, hr]; rfl
theorem NetAt.at_ {w : World} {a : NAd} {ss rs : List Int} {p t : Int} {uv : Value} {us : List RLetter} {K : Nat} {S : Nat → NSt} (h : NetAt w a ss rs p t uv us K S) {i : Nat} (hi : i < a.n) : ∃ s r, ss[i]? = some s ∧ rs[i]? = some r ∧ hereAt ss rs t i = readV s r t ∧ (0 ≤ s ∧ s ≤ 1000000) ∧ (-1000 ≤ r ∧ r ≤ 1000) := by
  obtain ⟨_, hs⟩ : ∃ z, ss[i]? = some z := ⟨_, List.getElem?_eq_getElem (by rw [h.W.ls]; exact hi)⟩
  obtain ⟨_, hr⟩ : ∃ z, rs[i]? = some z := ⟨_, List.getElem?_eq_getElem (by rw [h.W.lr]; exact hi)⟩
  exact ⟨_, _, hs, hr, hereAt_eq hs hr, h.W.sb i _ hs, h.W.rb i _ hr⟩
theorem edge_oneT (z : REdge) : ∀ u ∈ REdge.cells z, u.oneCell' = true := by
  intro u hu
  simp [REdge.cells] at hu
  rcases hu with rfl | rfl | rfl | rfl <;> rfl
theorem infoEdgeT : (Tryd.prog.info? 72).map (fun i => (i.zero, i.size, i.bytes)) = some (some (.agg #[.int .i64 0, .int .i64 0, .int .i64 0, .int .i64 0]), 4, 32) := by kernel_rfl
set_option maxRecDepth 100000 in
set_option maxHeartbeats 8000000 in
theorem net_Edges (a : NAd) (ss rs : List Int) (p t : Int) (uv : Value) (us : List RLetter) (K : Nat) (S : Nat → NSt) (w : World) (h : NetAt w a ss rs p t uv us K S) :
    Calls Tryd.prog 20 #[.pointer (some ⟨a.N, 0, none⟩)] w fun e w' => EdgesTold w w' e (netE (hereAt ss rs t) S a.n) (netC (hereAt ss rs t) S a.n) := by
  obtain ⟨i0, hi, hz0, hz1, hz2⟩ := info_parts infoEdgeT
  have HU := Lib.hid h
  have n6 := h.W.n6
  have kN := h.net.lt
  have c1 := h.net.cell 1
  simp at c1
  have hnc := h.nc.1
  have hcm := h.nc.2
  unfold maxLen at hcm
  have kq := h.ql
  have hlens := fun k hk => netL_len (h := hereAt ss rs t) (S := S) (n := a.n) (fun i hi => (h.sN i hi).1) k hk
  have HLens := Lib.hid hlens
  have HEok := Lib.hid (fun k (hk : k ≤ a.n) => show ∀ z ∈ netL (hereAt ss rs t) S k, z.ok from fun z hz => by
    obtain ⟨i, hi, hz⟩ := List.mem_flatMap.1 hz
    exact tellE_ok (h.nd i (by have := List.mem_range.1 hi; omega)).ok z hz)
  clear h hlens
  go_enter Tryd.func20, Tryd.ntmps20
  go_wp2_with fail
  go_loopw [4, 15] (fun vv iv wr => ∃ i : Nat, iv = .int .i64 i ∧ i ≤ a.n ∧ netC (hereAt ss rs t) S i = 0 ∧ wr.ownsRow w.heap.size 72 4 vv (netL (hereAt ss rs t) S i).length ((netL (hereAt ss rs t) S i).flatMap REdge.cells) ∧ Below w.heap.size w wr) (fun _ iv _ => a.n - (intOf iv).toNat)
  case atStart => exact ⟨0, rfl, by omega, rfl, by simpa [netL] using own_nil _ _ _ _, Below.refl _ _⟩
  case round =>
    obtain ⟨i, rfl, hi', hC, hO, hB⟩ := hrel
    have HO := Lib.hid hO
    have HBr := Lib.hid hB
    have HC := Lib.hid hC
    have hzr := hB.size
    have HNr := Lib.hid (HU.out.below hB)
    by_cases d1 : i < a.n
    · have zr : wr.cell? ⟨a.q, i, none⟩ = some (.pointer (some ⟨a.gi i, 0, none⟩)) := HNr.out.row i d1
      have z0 : wr.cell? ⟨a.N, 0, none⟩ = some (.pointer (some ⟨a.g, 0, none⟩)) := by have := HNr.out.net.cell 0; simpa using this
      have g1 : (i : Int) < (a.n : Int) := by omega
      obtain ⟨sv, rv, hs, hr, hh, _, _⟩ := HU.out.at_ d1
      have CR := Lib.hid (by have := world_Read a.g a.n ss rs t uv i sv rv wr HNr.out.W.at hs hr; rw [← hh] at this; exact this)
      have hq : a.q < wr.heap.size := HNr.out.ql
      have hlen := HLens.out i (by omega)
      have hmul : i * a.n ≤ 36 := by have := Nat.mul_le_mul (show i ≤ 6 by omega) n6; omega
      obtain ⟨L, hL⟩ : ∃ L, netL (hereAt ss rs t) S i = L := ⟨_, rfl⟩
      rw [hL] at HO hlen
      have HL := Lib.hid hL
      obtain ⟨here, hhere⟩ : ∃ v, hereAt ss rs t i = v := ⟨_, rfl⟩
      rw [hhere] at CR
      have HH := Lib.hid hhere
      clear hO hB hC hs hr hh hL hhere
      go_wp2_with fail
      refine CR.out.mono ?_
      rintro e w2 ⟨rfl, hb2⟩
      have HB2 := Lib.hid hb2
      have hz2' := hb2.size
      have CE := Lib.hid (node_Edges (a.gi i) (a.mb i) K (S i) here w2 ((HNr.out.below hb2).nd i d1))
      clear hb2 CR z0 zr
      go_wp2_with fail
      refine CE.out.mono ?_
      rintro e w3 ⟨A3, n3, k3, rfl, hI3, hb3⟩
      have HB3 := Lib.hid (HB2.out.trans (hb3.mono HB2.out.size))
      have hz3 := HB3.out.size
      by_cases hc : tellC (S i) here = 0
      · have hn3 : n3 = (tellE (S i) here).length := hI3.1.symm
        have hlt : n3 ≤ 6 := by rw [hn3]; have := tellE_len (S i) here; rw [(HU.out.sN i d1).1] at this; omega
        have HI3 := Lib.hid hI3
        have HN3 := Lib.hid hn3
        have HO3 := Lib.hid (own_below HO.out HB3.out)
        have HCC := Lib.hid (show netC (hereAt ss rs t) S (i + 1) = 0 by show (if netC (hereAt ss rs t) S i = 0 then tellC (S i) (hereAt ss rs t i) else _) = 0; rw [if_pos HC.out, HH.out]; exact hc)
        rw [hc]
        clear hI3 hb3 CE hn3 HO hc
        go_wp2_with (at_builtin; refine wpList_append_recs REdge.cells REdge.ok 4 (fun _ => rfl) edge_oneT _ rfl _ _ 60 rfl w.heap.size 72 i0 _ 32 Tryd.underlying60 hi hz0 hz1 hz2 rfl (by decide) _ L.length (L.flatMap REdge.cells) rfl HO3.out A3 n3 k3 (tellE (S i) here) rfl HI3.out (by unfold maxLen; omega) (by omega) (by omega) ?_; intro v5 w5 ho5 hg5)
        have HO5 := Lib.hid (show w5.ownsRow w.heap.size 72 4 v5 (netL (hereAt ss rs t) S (i + 1)).length ((netL (hereAt ss rs t) S (i + 1)).flatMap REdge.cells) from by
          rw [netL_succ, HH.out, HL.out, List.length_append, List.flatMap_append, ← HN3.out]; exact ho5)
        have HB5 := Lib.hid ((HBr.out.trans (HB3.out.mono hzr)).grown hg5 (by omega) (fun k hk => (HO3.out.lt k hk).1))
        clear ho5 hg5 HO3 HI3
        go_wp2_with fail
        go_roundw
        case rel => exact ⟨i + 1, by go_num, by omega, HCC.out, HO5.out, HB5.out⟩
        case measure => go_light; simp [intOf]; omega
      · have HCC := Lib.hid (show netC (hereAt ss rs t) S a.n = tellC (S i) here by
          have e : netC (hereAt ss rs t) S (i + 1) = tellC (S i) here := by show (if netC (hereAt ss rs t) S i = 0 then tellC (S i) (hereAt ss rs t i) else _) = _; rw [if_pos HC.out, HH.out]
          rw [← e]; exact netC_stays (by rw [e]; exact hc) (by omega))
        have HEE := Lib.hid (show netE (hereAt ss rs t) S a.n = [] by unfold netE; rw [HCC.out, if_neg hc])
        have HBw := Lib.hid (HBr.out.trans (HB3.out.mono hzr))
        obtain ⟨c, hcc⟩ : ∃ c, tellC (S i) here = c := ⟨_, rfl⟩
        rw [hcc] at hc HCC ⊢
        rw [errV_ne hc]
        clear hI3 hb3 CE hcc
        go_wp2_with fail
        refine bodyPost_ret (v := .tuple #[.slice none 0 0, .iface 87 (.int .i64 c)]) (by simp [results, Tryd.results20, go_sem]) rfl ?_
        exact ⟨none, 0, 0, by rw [HCC.out, errV_ne hc], by rw [HEE.out]; exact recs_nil _ _ _ _, HBw.out⟩
    · obtain rfl : i = a.n := by omega
      obtain ⟨A9, n9, c9, e9, hI9⟩ := own_recs REdge.cells REdge.ok 4 (fun _ => rfl) hO (HEok.out a.n (Nat.le_refl _))
      have HI9 := Lib.hid hI9
      have HEE := Lib.hid (show netE (hereAt ss rs t) S a.n = netL (hereAt ss rs t) S a.n by unfold netE; rw [if_pos hC])
      rw [e9]
      clear hO HO hB hI9 e9 hC
      go_wp2_with fail
      refine bodyPost_ret (v := .tuple #[.slice A9 n9 c9, .nilIface]) (by simp [results, Tryd.results20, go_sem]) rfl ?_
      exact ⟨_, _, _, by rw [HC.out]; rfl, by rw [HEE.out]; exact HI9.out, HBr.out⟩
theorem net_Show (a : NAd) (ss rs : List Int) (p t : Int) (uv : Value) (us : List RLetter) (K : Nat) (S : Nat → NSt) (i : Nat) (w : World) (h : NetAt w a ss rs p t uv us K S) (hi : i < a.n) :
    Calls Tryd.prog 10 #[.pointer (some ⟨a.N, 0, none⟩), .int .i64 i] w fun e w' => e = .returned (.tuple #[.int .i64 (hereAt ss rs t i), .nilIface]) ∧ Below w.heap.size w w' := by
  obtain ⟨sv, rv, hs, hr, hh, _, _⟩ := h.at_ hi
  have CR := Lib.hid (by have := world_Read a.g a.n ss rs t uv i sv rv w h.W.at hs hr; rw [← hh] at this; exact this)
  have c0 := h.net.cell 0
  simp at c0
  clear h hs hr hh
  go_enter Tryd.func10, Tryd.ntmps10
  go_wp2_with fail
  refine CR.out.mono ?_
  rintro e w2 ⟨rfl, hb2⟩
  go_wp2_with fail
  go_ret2
  exact ⟨rfl, hb2⟩
end Go.Proofs.YtfjpfkejajgkbaaDoor
