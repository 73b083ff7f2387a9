/- The reference's net: a line, walked. -/
import Derived.Test.YtldlandcjegikaaGreatDoorHKG
import Derived.Test.YtldlandcjegikaaGreatDoorHRCutL
import Derived.Test.YtldlandcjegikaaGreatDoorHK5
import Derived.Test.YtldlandcjegikaaGreatDoorHS7
import Derived.Test.YtldlandcjegikaaGreatDoorHRLeap2
namespace Go.Proofs.YtldlandcjegikaaGreatDoor
open Go.RowKit
set_option linter.unusedVariables false
set_option linter.unusedSimpArgs false
theorem own_strs {w : World} {B : Nat} {T : TypeId} {v : Value} {xs : List (List UInt8)} (ho : w.ownsRow B T 1 v xs.length (xs.flatMap strC)) (h0 : 0 < xs.length) : ∃ q cap, v = .slice (some ⟨q, 0, none⟩) xs.length cap ∧ B ≤ q ∧ q < w.heap.size ∧ xs.length ≤ cap ∧ cap ≤ maxLen ∧ ∀ (i : Nat) z, xs[i]? = some z → w.cell? ⟨q, i, none⟩ = some (.string ⟨z.toArray⟩) := by
 have hc := fun {g : Nat} (hg : v.ownBlock = some g) => ho.cells hg
 rcases ho.2 with ⟨rfl, hn⟩ | ⟨g, cap, cur, rfl, hbb, hg, hn, hm, hs, ht⟩
 ·omega
 ·refine ⟨g, cap, rfl, hbb, (Array.getElem?_eq_some_iff.1 hg).1, hn, hm, fun i z hz => ?_⟩
  have hx := hc (g := g) rfl (i * 1 + 0) (.string ⟨z.toArray⟩) (flat_get strC 1 strC_len xs i 0 z _ hz rfl)
  rw [show (⟨g, 0, none⟩ : Addr).add (i * 1 + 0) = ⟨g, i, none⟩ by unfold Addr.add; split <;> simp_all] at hx
  exact hx
variable {W0 w W : World} {b : SAd} {A1 A2 : Option Addr} {c1 c2 : Nat} {t t' : Int} {uv : Value} {us us' : List RLetter} {S S' : Nat → NSt} {s : ByteArray} {out : List UInt8}
def LineR (W0 w : World) (b : SAd) (A1 A2 : Option Addr) (c1 c2 : Nat) (uv : Value) (out : List UInt8) (t' : Int) (us' : List RLetter) (S' : Nat → NSt) (e : Ending) (w' : World) : Prop :=
 e = .returned (.string ⟨out.toArray⟩) ∧ ∃ uv', SNetAt W0 w' b A1 A2 c1 c2 100 t' uv' us' S' ∧ Kept (SMine b uv) w w' ∧ (∀ q, uv'.ownBlock = some q → uv.ownBlock = some q ∨ w.heap.size ≤ q)
theorem LineR.read (h : SNetAt W0 w b A1 A2 c1 c2 100 t uv us S) {e : Ending} (he : e = .returned (.string ⟨out.toArray⟩)) (hb : Below w.heap.size w W) : LineR W0 w b A1 A2 c1 c2 uv out t us S e W :=
 ⟨he, uv, h.below hb, (Kept.refl _ w).below hb, fun _ e => .inl e⟩
theorem LineR.done {e : Ending} {w2 : World} {uv' : Value} (he : e = .returned (.string ⟨out.toArray⟩)) (hb : Below w.heap.size w W) (hN : SNetAt W0 w2 b A1 A2 c1 c2 100 t' uv' us' S') (hK : Kept (SMine b uv) W w2) (hu : ∀ q, uv'.ownBlock = some q → uv.ownBlock = some q ∨ W.heap.size ≤ q) : LineR W0 w b A1 A2 c1 c2 uv out t' us' S' e w2 :=
 ⟨he, uv', hN, ((Kept.refl _ w).below hb).trans hK (fun _ e => .inl e), fun q e => (hu q e).imp id (fun h => Nat.le_trans hb.size h)⟩
theorem ans_bad (h : Ans t us S .bad out t' us' S') : out = [98, 97, 100] ∧ t = t' ∧ us = us' ∧ S = S' := by
 cases h with
 | bad => exact ⟨rfl, rfl, rfl, rfl⟩
 | of _ _ _ _ _ _ h => cases h
theorem LineR.bad (h : SNetAt W0 w b A1 A2 c1 c2 100 t uv us S) {C : Cmd} (ha : Ans t us S C out t' us' S') (hC : C = .bad) {e : Ending} (he : e = .returned (.string ⟨#[98, 97, 100]⟩)) (hb : Below w.heap.size w W) : LineR W0 w b A1 A2 c1 c2 uv out t' us' S' e W := by
 subst hC
 obtain ⟨rfl, rfl, rfl, rfl⟩ := ans_bad ha
 exact .read h he hb
theorem cmd_bad_num {k : Nat} {v : List (List UInt8)} {j : Nat} {x : List UInt8} (hx : v[j]? = some x) (hn : num7B x = false) : cmdW k v = .bad := by
 unfold cmdW
 rw [if_neg]
 rintro ⟨_, h⟩
 rw [List.all_eq_true] at h
 have := h x (List.mem_of_getElem? hx)
 rw [hn] at this
 cases this
theorem ans_act {k x y : Int} (h : Ans t us S (.act k x y) out t' us' S') : ∃ c, NAct 3 ssR rsR t us S ⟨k, x, y⟩ c t' us' S' ∧ out = ansL [111, 107] c := by
 cases h with
 | of _ o c _ _ _ h =>
  cases h with
  | act _ _ _ _ _ _ _ h => exact ⟨c, h, rfl⟩
theorem ans_show {i : Int} (h : Ans t us S (.show i) out t' us' S') : out = ansL (Lib.itoa (showV t i)) (showC i) ∧ t = t' ∧ us = us' ∧ S = S' := by
 cases h with
 | of _ o c _ _ _ h => cases h; exact ⟨rfl, rfl, rfl, rfl⟩
theorem ans_wide (h : Ans t us S .wide out t' us' S') : ∃ v c, WideA 3 (hereAt ssR rsR t) S v c ∧ out = ansL (Lib.itoa v) c ∧ t = t' ∧ us = us' ∧ S = S' := by
 cases h with
 | of _ o c _ _ _ h =>
  cases h with
  | wide v c h => exact ⟨v, c, h, rfl, rfl, rfl, rfl⟩
theorem ans_offset {x y : Int} (h : Ans t us S (.offset x y) out t' us' S') : ∃ z c, OffS 3 (hereAt ssR rsR t) S x y z c ∧ out = ansL (if c = 0 then printS z.lo z.hi else []) c ∧ t = t' ∧ us = us' ∧ S = S' := by
 cases h with
 | of _ o c _ _ _ h =>
  cases h with
  | offset _ _ z c h => exact ⟨z, c, h, rfl, rfl, rfl, rfl⟩
theorem ans_date {n : Int} (h : Ans t us S (.date n) out t' us' S') : out = labT (dateX n) ∧ t = t' ∧ us = us' ∧ S = S' := by
 cases h with
 | of _ o c _ _ _ h => cases h; exact ⟨rfl, rfl, rfl, rfl⟩
theorem ssR_bd : ∀ (i : Nat) z, ssR[i]? = some z → 0 ≤ z ∧ z ≤ 1000000 := by
 intro i z h
 have := List.mem_of_getElem? h
 unfold ssR at this
 simp at this
 omega
theorem rsR_bd : ∀ (i : Nat) z, rsR[i]? = some z → -1000 ≤ z ∧ z ≤ 1000 := by
 intro i z h
 have := List.mem_of_getElem? h
 unfold rsR at this
 simp at this
 omega
theorem own_i1 {B : Nat} {v : Value} {z : Int} (ho : w.ownsRow B 3 1 v ([z] : List Int).length (([z] : List Int).flatMap intCells)) : ∃ q cap, v = .slice (some ⟨q, 0, none⟩) 1 cap ∧ q < w.heap.size ∧ 1 ≤ cap ∧ cap ≤ 9223372036854775807 ∧ w.cell? ⟨q, 0, none⟩ = some (.int .i64 z) := by
 obtain ⟨q, cap, h, _, h1, h2, h3, h4⟩ := own_ints ho (by simp)
 unfold maxLen at h3
 exact ⟨q, cap, h, h1, h2, by omega, h4 0 z rfl⟩
theorem own_i2 {B : Nat} {v : Value} {y z : Int} (ho : w.ownsRow B 3 1 v ([y, z] : List Int).length (([y, z] : List Int).flatMap intCells)) : ∃ q cap, v = .slice (some ⟨q, 0, none⟩) 2 cap ∧ q < w.heap.size ∧ 2 ≤ cap ∧ cap ≤ 9223372036854775807 ∧ w.cell? ⟨q, 0, none⟩ = some (.int .i64 y) ∧ w.cell? ⟨q, 1, none⟩ = some (.int .i64 z) := by
 obtain ⟨q, cap, h, _, h1, h2, h3, h4⟩ := own_ints ho (by simp)
 unfold maxLen at h3
 exact ⟨q, cap, h, h1, h2, by omega, h4 0 y rfl, h4 1 z rfl⟩
theorem own_in {B m : Nat} {T : TypeId} {v : Value} {xs : List Value} (ho : w.ownsRow B T 1 v m xs) : ∃ A c, v = .slice A m c ∧ m ≤ c ∧ c ≤ 9223372036854775807 := by
 obtain ⟨A, c, h, h1, h2⟩ := own_slice ho
 unfold maxLen at h2
 exact ⟨A, c, h, h1, by omega⟩
theorem onePc {vs : List (List UInt8)} (h : (vs.length : Int) = 1) : ∃ x, vs = [x] := List.length_eq_one_iff.1 (by omega)
theorem twoPc {vs : List (List UInt8)} (h : (vs.length : Int) = 2) : ∃ x y, vs = [x, y] := by
 match vs, h with
 | [x, y], _ => exact ⟨x, y, rfl⟩
 | [], h => simp at h
 | [_], h => simp at h
 | _ :: _ :: _ :: _, h => simp at h; omega
theorem snet_read (h : SNetAt W0 w b A1 A2 c1 c2 100 t uv us S) (i1 : IsInts W0 A1 b.n c1 ssR) (i2 : IsInts W0 A2 b.n c2 rsR) (i : Nat) (hi : i < 3) :
  Calls Tryz.prog 22 #[.pointer (some ⟨b.M, 0, none⟩), .int .i64 i] w fun e w' => e = .returned (.int .i64 (hereAt ssR rsR t i)) ∧ Below w.heap.size w w' := by
 have hc : i = 0 ∨ i = 1 ∨ i = 2 := by omega
 rcases hc with rfl | rfl | rfl
 ·exact r2_WRead W0 b.M b.B b.n A1 A2 c1 c2 ssR rsR t uv us 0 0 100 w h.W i1 i2 rfl rfl (by decide) (by decide)
 ·exact r2_WRead W0 b.M b.B b.n A1 A2 c1 c2 ssR rsR t uv us 1 1000 (-100) w h.W i1 i2 rfl rfl (by decide) (by decide)
 ·exact r2_WRead W0 b.M b.B b.n A1 A2 c1 c2 ssR rsR t uv us 2 50 0 w h.W i1 i2 rfl rfl (by decide) (by decide)
theorem r_utc_nil (n : Int) (x : RLabel) (w : World) (n0 : 0 ≤ n) (n1 : n ≤ 9999999) (hd : dateB x.year x.month x.day = true) (hn : numD x.year x.month x.day = n / 86400) (hh : x.h = n % 86400 / 3600) (hm : x.m = n % 86400 / 60 % 60) (hs : x.s = n % 86400 % 60) :
  Calls Tryz.prog 26 #[.slice none 0 0, .int .i64 n] w fun e w' => e = .returned (.agg #[.int .i64 x.year, .int .i64 x.month, .int .i64 x.day, .int .i64 x.h, .int .i64 x.m, .int .i64 x.s]) ∧ Below w.heap.size w w' := by
 have eb : ∀ d, beginL [] d = 86400 * d := fun d => by unfold beginL moreL; omega
 have h := r_Utc none 0 0 [] n (n / 86400) x.year x.month x.day w ⟨rfl, Nat.le_refl _, by unfold maxLen; omega, (fun z hz => absurd hz (by simp)), (fun h => absurd h (by omega))⟩ ⟨by simp, rfl⟩ (by omega) (by omega) (by rw [eb]; omega) (by rw [eb]; omega) hd hn
 rw [eb] at h
 have e : n - 86400 * (n / 86400) = n % 86400 := by omega
 rw [e] at h
 have k : ¬ 86400 ≤ n % 86400 := by omega
 unfold labH labM labS at h
 rw [if_neg k, if_neg k, if_neg k, ← hh, ← hm, ← hs] at h
 exact h
theorem off_cbd (hT : TrueR t us S) {x y c : Int} {z : RSpan} (h : OffS 3 (hereAt ssR rsR t) S x y z c) : 0 ≤ c ∧ c ≤ 8 := by
 rcases hT.off_form (by decide) h with ⟨_, rfl, _⟩ | ⟨_, i, k, D, _, _, _, _, _, ⟨_, rfl, _⟩ | ⟨_, rfl, _⟩⟩ <;> constructor <;> decide
theorem pieces_cons (c : UInt8) (l : List UInt8) : ∃ x vs, piecesL c l = x :: vs := by
 cases h : piecesL c l with
 | nil => unfold piecesL at h; simp at h
 | cons x vs => exact ⟨x, vs, rfl⟩
theorem pieces_le (c : UInt8) (l : List UInt8) : (piecesL c l).length ≤ l.length + 1 := by
 have := cutD_le c l
 unfold piecesL
 simp
 exact this
set_option maxRecDepth 100000 in
set_option maxHeartbeats 8000000 in
theorem r2_Line (h : SNetAt W0 w b A1 A2 c1 c2 100 t uv us S) (i1 : IsInts W0 A1 b.n c1 ssR) (i2 : IsInts W0 A2 b.n c2 rsR) (h3 : b.n = 3) (hT : TrueR t us S) (hs : s.size ≤ 1048576) (ha : Ans t us S (cmdOf s.data.toList) out t' us' S') :
  Calls Tryz.prog 9 #[.pointer (some ⟨b.M, 0, none⟩), .string s] w (LineR W0 w b A1 A2 c1 c2 uv out t' us' S') := by
 obtain ⟨i0, hi, hz0, hz1, hz2⟩ := info_parts infoI
 have CC := Lib.hid (fun W => show Calls Tryz.prog 7 #[.string s, .int .u8 32] W _ from r1_Cut s 32 W hs)
 obtain ⟨x0, vs, hws⟩ := pieces_cons 32 s.data.toList
 have hlen := pieces_le 32 s.data.toList
 have hpl := piece_le 32 _ s.data.toList (Nat.le_refl _)
 rw [str_len2] at hlen hpl
 have hcm : cmdOf s.data.toList = cmdW (wordK x0) vs := by unfold cmdOf; rw [hws]; rfl
 rw [hcm] at ha
 rw [hws] at CC hlen hpl
 have hlen2 : vs.length ≤ 1048576 := by simp at hlen; omega
 have HPl := Lib.hid (fun x (hx : x ∈ vs) => show (⟨x.toArray⟩ : ByteArray).size ≤ 1048576 by have := hpl x (List.mem_cons_of_mem _ hx); rw [str_len]; omega)
 have HCN := Lib.hid (fun x W (hx : x ∈ vs) => show Calls Tryz.prog 11 #[.string ⟨x.toArray⟩, .int .i64 7] W (fun e w' => e = .returned (.tuple #[.int .i64 (num7RV x), .bool (num7RB x)]) ∧ Below W.heap.size W w') by
  have := r1_Number7 ⟨x.toArray⟩ W (HPl.out x hx)
  simpa using this)
 have HN := Lib.hid h
 have HT := Lib.hid hT
 have HA := Lib.hid ha
 have HI1 := Lib.hid i1
 have HI2 := Lib.hid i2
 clear h i1 i2 hT ha hws hcm hlen hpl hs
 go_enter Tryz.func9, Tryz.ntmps9
 go_wp2_with fail
 refine (CC.out _).mono ?_
 rintro e w1 ⟨v, rfl, ho, hb1⟩
 obtain ⟨gw, cw, rfl, hgw0, hgw1, hcw, hcm2, hcell⟩ := own_strs ho (by simp)
 unfold maxLen at hcm2
 simp only [List.length_cons] at hcw
 have HCell := Lib.hid hcell
 have y0 := hcell 0 x0 rfl
 have HB1 := Lib.hid hb1
 have hzb := hb1.size
 obtain ⟨n, en⟩ : ∃ n, (x0 :: vs).length = n := ⟨_, rfl⟩
 have HLn := Lib.hid (show vs.length + 1 = n by rw [← en]; rfl)
 rw [en]
 have hn1 : 1 ≤ n := by have := HLn.out; omega
 have hnb : n ≤ 1048577 := by have := HLn.out; omega
 clear ho hb1 hcell en hcw
 go_wp2_with fail
 go_loopw [6, 7] (fun rv iv wr => ∃ (j k : Nat), iv = .int .i64 k ∧ k = j + 1 ∧ k ≤ n ∧ (∀ i x, vs[i]? = some x → i < j → num7B x = true) ∧ wr.ownsRow w1.heap.size 3 1 rv ((vs.take j).map atoV).length (((vs.take j).map atoV).flatMap intCells) ∧ Below w1.heap.size w1 wr) (fun _ iv _ => n - (intOf iv).toNat)
 case atStart => exact ⟨0, 1, rfl, rfl, hn1, fun i x _ hi => absurd hi (by omega), own_nil _ _ _ _, Below.refl _ _⟩
 case round =>
  obtain ⟨j, k, rfl, hkj, hkn, hall, hor, hbr⟩ := hrel
  have HKJ := Lib.hid hkj
  have HAll := Lib.hid hall
  have HO := Lib.hid hor
  have HBr := Lib.hid hbr
  have hzr := hbr.size
  have hk1 : 1 ≤ k := by omega
  clear hkj hall hor hbr
  have q0 : (0 : Int) ≤ (k : Int) := by omega
  by_cases d1 : k < n
  ·have q1 : (k : Int) < (n : Int) := by omega
   have hjv : j < vs.length := by have := HLn.out; have := HKJ.out; omega
   obtain ⟨x, hx⟩ : ∃ x, vs[j]? = some x := ⟨vs[j], List.getElem?_eq_getElem hjv⟩
   have HX := Lib.hid hx
   have ex := Lib.hid (show (x0 :: vs)[k]? = some x by rw [HKJ.out]; exact hx)
   have yk : wr.cell? ⟨gw, k, none⟩ = some (.string ⟨x.toArray⟩) := (HBr.out.cell (p := ⟨gw, k, none⟩) hgw1).trans (HCell.out k x ex.out)
   have CN := Lib.hid (fun W => HCN.out x W (List.mem_of_getElem? hx))
   have hsame := num7_same x
   have hval := @num7R_val x
   obtain ⟨kv, ekv⟩ : ∃ kv, num7RV x = kv := ⟨_, rfl⟩
   obtain ⟨ok, eok⟩ : ∃ ok, num7RB x = ok := ⟨_, rfl⟩
   rw [ekv, eok] at CN hsame hval
   have HSame := Lib.hid hsame
   have HVal := Lib.hid hval
   clear hx hjv ekv eok hsame hval
   by_cases hgood : ok = true ∧ 0 ≤ kv
   ·obtain ⟨rfl, kv0⟩ := hgood
    have hN := Lib.hid (show num7B x = true by rw [HSame.out, decide_eq_true kv0]; rfl)
    have hV := Lib.hid (show kv = atoV x from HVal.out rfl)
    have hkv1 : kv ≤ 9999999 := by rw [hV.out]; exact (num7_bd hN.out).2
    have kvn : ¬ kv < 0 := by omega
    have hl : ((vs.take j).map atoV).length ≤ j := by simp; omega
    obtain ⟨zs, ezs⟩ : ∃ zs, (vs.take j).map atoV = zs := ⟨_, rfl⟩
    rw [ezs] at HO hl
    have HZS := Lib.hid ezs
    have hl2 : zs.length ≤ 1048577 := by have := HKJ.out; omega
    clear ezs hl
    go_wp2_with (first
     | (go_at_call 11; refine (CN.out _).mono ?_; rintro e w3 ⟨rfl, hb3⟩; have hz3 := hb3.size; (try simp at hz3))
     | (at_builtin; refine wpList_append_own _ rfl _ _ 27 rfl w1.heap.size 3 i0 (.int .i64 0) 1 8 Tryz.underlying27 hi hz0 hz1 hz2 rfl (by decide) _ _ _ rfl ((own_below HO.out hb3).alloc _) ⟨w3.heap.size, 0, none⟩ 1 1 [.int .i64 kv] rfl rfl (cell_newAt w3 [.int .i64 kv] _ _ rfl) (by intro u hu; simp at hu; subst hu; rfl) (by unfold maxLen; omega) (by omega) (by simp; omega) ?_; intro v' w4 ho1 hg1 _))
    have HB4 := Lib.hid (show Below w1.heap.size w1 w4 from ((HBr.out.trans (hb3.mono hzr)).alloc (by omega) _).grown hg1 (by simp; omega) (fun q hq => (HO.out.lt q hq).1))
    have HO2 := Lib.hid (own_snoc intCells (z := kv) ho1)
    have hz4 := HB4.out.size
    clear ho1 hg1 hb3
    go_roundw
    case rel =>
     have ht : (vs.take (j + 1)).map atoV = zs ++ [kv] := by rw [← HZS.out, List.take_add_one, HX.out, List.map_append, hV.out]; rfl
     refine ⟨j + 1, k + 1, by go_num, by rw [HKJ.out], by omega, fun i y hy hi => ?_, ?_, HB4.out⟩
     ·rcases Nat.lt_or_ge i j with g | g
      ·exact HAll.out i y hy g
      ·obtain rfl : i = j := by omega
       have := hy.symm.trans HX.out
       obtain rfl := Option.some.inj this
       exact hN.out
     ·rw [ht]
      simpa using HO2.out
    case measure => simp [intOf]; omega
   ·have hN := Lib.hid (show num7B x = false by
     rw [HSame.out]
     cases ok with
     | false => rfl
     | true => simp at hgood; simp; omega)
    have HC := Lib.hid (cmd_bad_num (k := wordK x0) HX.out hN.out)
    cases ok with
    | false =>
     clear hgood
     go_wp2_with (go_at_call 11; refine (CN.out _).mono ?_; rintro e w3 ⟨rfl, hb3⟩; have hz3 := hb3.size; (try simp at hz3))
     go_ret
     exact LineR.bad HN.out HA.out HC.out rfl (HB1.out.trans ((HBr.out.trans (hb3.mono hzr)).mono hzb))
    | true =>
     have kvn : kv < 0 := by simp at hgood; omega
     clear hgood
     go_wp2_with (go_at_call 11; refine (CN.out _).mono ?_; rintro e w3 ⟨rfl, hb3⟩; have hz3 := hb3.size; (try simp at hz3))
     go_ret
     exact LineR.bad HN.out HA.out HC.out rfl (HB1.out.trans ((HBr.out.trans (hb3.mono hzr)).mono hzb))
  ·obtain rfl : k = n := by omega
   have hj : j = vs.length := by have := HLn.out; have := HKJ.out; omega
   have HAl := Lib.hid (show vs.all num7B = true by
    rw [List.all_eq_true]
    intro y hy
    obtain ⟨i, hi, e⟩ := List.getElem_of_mem hy
    exact HAll.out i y (by rw [List.getElem?_eq_getElem hi, e]) (by omega))
   have hor := HO.out
   rw [List.take_of_length_le (Nat.le_of_eq hj.symm)] at hor
   obtain ⟨X0, eX0⟩ : ∃ X0 : ByteArray, (⟨x0.toArray⟩ : ByteArray) = X0 := ⟨_, rfl⟩
   have hq := eqs_of X0
   rw [← eX0, show ((⟨x0.toArray⟩ : ByteArray)).data.toList = x0 from rfl, eX0] at hq
   rw [eX0] at y0
   have hkk := wordK_lt x0
   obtain ⟨kk, ek⟩ : ∃ kk, wordK x0 = kk := ⟨_, rfl⟩
   rw [ek] at hq hkk HA
   have yw : wr.cell? ⟨gw, 0, none⟩ = some (.string X0) := (HBr.out.cell (p := ⟨gw, 0, none⟩) hgw1).trans y0
   have HBw := Lib.hid (HB1.out.trans (HBr.out.mono hzb))
   have hgw2 : gw < wr.heap.size := by omega
   have hzw := HBw.out.size
   have hV := Lib.hid hor
   have hgww : w.heap.size ≤ gw := hgw0
   clear ek eX0 y0 hor HO HAll HB1 HBr HCN HPl CC HCell hgw1 HLn HKJ hkn hk1 hj hzb hzr q0 hi hz0 hz1 hz2
   have hBw := HBw.out
   obtain ⟨q1, q2, q3, q4, q5, q6, q7, q8, q9⟩ := hq
   rcases ten hkk with rfl | rfl | rfl | rfl | rfl | rfl | rfl | rfl | rfl | rfl
   ·as_aux_lemma =>
     replace q1 : _ = false := q1
     replace q2 : _ = false := q2
     replace q3 : _ = false := q3
     replace q4 : _ = false := q4
     replace q5 : _ = false := q5
     replace q6 : _ = false := q6
     replace q7 : _ = false := q7
     replace q8 : _ = false := q8
     replace q9 : _ = false := q9
     have HC := Lib.hid (show cmdW 0 vs = .bad by unfold cmdW; rw [if_neg (by rintro ⟨h, _⟩; unfold wantN at h; simp at h)])
     have hv := hV.out
     obtain ⟨m, em⟩ : ∃ m, (vs.map atoV).length = m := ⟨_, rfl⟩
     rw [em] at hv
     rw [List.length_map] at em
     obtain ⟨Av, cv, rfl, hv1, hv2⟩ := own_in hv
     clear hv em hV hlen2
     go_wp2_with fail
     go_ret
     exact LineR.bad HN.out HA.out HC.out rfl (hBw.trans (Below.mono (show Below wr.heap.size wr _ from BeL) hzw))
   ·by_cases hm : (vs.length : Int) = 1
    ·as_aux_lemma =>
      replace q1 : _ = true := q1
      replace q2 : _ = false := q2
      replace q3 : _ = false := q3
      replace q4 : _ = false := q4
      replace q5 : _ = false := q5
      replace q6 : _ = false := q6
      replace q7 : _ = false := q7
      replace q8 : _ = false := q8
      replace q9 : _ = false := q9
      obtain ⟨x1, rfl⟩ := onePc hm
      have hn1 : num7B x1 = true := by simpa using HAl.out
      obtain ⟨b1, d1⟩ := num7_bd hn1
      have hA := HA.out
      obtain ⟨n1, en1⟩ : ∃ n, atoV x1 = n := ⟨_, rfl⟩
      obtain ⟨gv, cv, rfl, hgv, hcv, hcm3, yv⟩ := own_i1 (z := atoV x1) hV.out
      rw [en1] at b1 d1 yv
      rw [show cmdW 1 [x1] = .act ((1 : Nat) : Int) (atoV x1) 0 by simp [cmdW, wantN, hn1], en1] at hA
      obtain ⟨c, hNA, rfl⟩ := ans_act hA
      replace hNA : NAct 3 ssR rsR t us S ⟨1, n1, 0⟩ c t' us' S' := hNA
      obtain ⟨k0, k8⟩ := nact_cbd hNA
      have CD := Lib.hid (fun W (hb : Below w.heap.size w W) => snet_Do ssR rsR ⟨1, n1, 0⟩ c (HN.out.below hb) HI1.out HI2.out ⟨by constructor <;> simp, by constructor <;> simp <;> omega, by constructor <;> simp⟩ (by omega) ssR_bd rsR_bd (by rw [h3]; exact hNA))
      clear hV HA HAl hm hlen2 hA hNA en1 hn1
      go_wp2_with fail
      refine (CD.out _ BeL).mono ?_
      rintro e w9 ⟨rfl, uv', hN, hKp, hu⟩
      have hN9 := Lib.hid hN
      have hK9 := Lib.hid hKp
      have hu9 := Lib.hid hu
      clear hN hKp hu
      by_cases hc : c = 0
      ·subst hc
       go_wp2_with fail
       go_ret
       exact LineR.done rfl BeL hN9.out hK9.out hu9.out
      ·have HO := (show ansL [111, 107] c = nameL c from if_neg hc)
       have CM := Lib.hid (fun W => r2_name c W k0 k8)
       obtain ⟨L, eL⟩ : ∃ L, nameL c = L := ⟨_, rfl⟩
       rw [eL] at CM HO
       replace HO := Lib.hid HO
       clear eL
       go_wp2_with fail
       refine (CM.out _).mono ?_
       rintro e w10 ⟨rfl, hb10⟩
       go_wp2_with fail
       go_ret
       exact LineR.done (by rw [HO.out]; rfl) BeL (hN9.out.below hb10) (hK9.out.below hb10) hu9.out
    ·as_aux_lemma =>
      replace q1 : _ = true := q1
      replace q2 : _ = false := q2
      replace q3 : _ = false := q3
      replace q4 : _ = false := q4
      replace q5 : _ = false := q5
      replace q6 : _ = false := q6
      replace q7 : _ = false := q7
      replace q8 : _ = false := q8
      replace q9 : _ = false := q9
      have HC := Lib.hid (show cmdW 1 vs = .bad by unfold cmdW; rw [if_neg (by rintro ⟨h, _⟩; exact hm h.symm)])
      have hv := hV.out
      obtain ⟨m, em⟩ : ∃ m, (vs.map atoV).length = m := ⟨_, rfl⟩
      rw [em] at hv
      rw [List.length_map] at em
      have hm1 : ¬ (m : Int) = 1 := by omega
      have hm2 : ¬ m = 1 := by omega
      obtain ⟨Av, cv, rfl, hv1, hv2⟩ := own_in hv
      clear hv em hV hlen2 hm
      go_wp2_with fail
      go_ret
      exact LineR.bad HN.out HA.out HC.out rfl (hBw.trans (Below.mono (show Below wr.heap.size wr _ from BeL) hzw))
   ·by_cases hm : (vs.length : Int) = 2
    ·as_aux_lemma =>
      replace q1 : _ = false := q1
      replace q2 : _ = true := q2
      replace q3 : _ = false := q3
      replace q4 : _ = false := q4
      replace q5 : _ = false := q5
      replace q6 : _ = false := q6
      replace q7 : _ = false := q7
      replace q8 : _ = false := q8
      replace q9 : _ = false := q9
      obtain ⟨x1, x2, rfl⟩ := twoPc hm
      have hn12 : num7B x1 = true ∧ num7B x2 = true := by simpa using HAl.out
      obtain ⟨hn1, hn2⟩ := hn12
      obtain ⟨b1, d1⟩ := num7_bd hn1
      obtain ⟨b2, d2⟩ := num7_bd hn2
      have hA := HA.out
      obtain ⟨n1, en1⟩ : ∃ n, atoV x1 = n := ⟨_, rfl⟩
      obtain ⟨n2, en2⟩ : ∃ n, atoV x2 = n := ⟨_, rfl⟩
      obtain ⟨gv, cv, rfl, hgv, hcv, hcm3, yv, yu⟩ := own_i2 (y := atoV x1) (z := atoV x2) hV.out
      rw [en1] at b1 d1 yv
      rw [en2] at b2 d2 yu
      rw [show cmdW 2 [x1, x2] = .act ((2 : Nat) : Int) (atoV x1) (atoV x2) by simp [cmdW, wantN, hn1, hn2], en1, en2] at hA
      obtain ⟨c, hNA, rfl⟩ := ans_act hA
      replace hNA : NAct 3 ssR rsR t us S ⟨2, n1, n2⟩ c t' us' S' := hNA
      obtain ⟨k0, k8⟩ := nact_cbd hNA
      have CD := Lib.hid (fun W (hb : Below w.heap.size w W) => snet_Do ssR rsR ⟨2, n1, n2⟩ c (HN.out.below hb) HI1.out HI2.out ⟨by constructor <;> simp, by constructor <;> simp <;> omega, by constructor <;> simp <;> omega⟩ (by omega) ssR_bd rsR_bd (by rw [h3]; exact hNA))
      clear hV HA HAl hm hlen2 hA hNA en1 hn1 en2 hn2
      go_wp2_with fail
      refine (CD.out _ BeL).mono ?_
      rintro e w9 ⟨rfl, uv', hN, hKp, hu⟩
      have hN9 := Lib.hid hN
      have hK9 := Lib.hid hKp
      have hu9 := Lib.hid hu
      clear hN hKp hu
      by_cases hc : c = 0
      ·subst hc
       go_wp2_with fail
       go_ret
       exact LineR.done rfl BeL hN9.out hK9.out hu9.out
      ·have HO := (show ansL [111, 107] c = nameL c from if_neg hc)
       have CM := Lib.hid (fun W => r2_name c W k0 k8)
       obtain ⟨L, eL⟩ : ∃ L, nameL c = L := ⟨_, rfl⟩
       rw [eL] at CM HO
       replace HO := Lib.hid HO
       clear eL
       go_wp2_with fail
       refine (CM.out _).mono ?_
       rintro e w10 ⟨rfl, hb10⟩
       go_wp2_with fail
       go_ret
       exact LineR.done (by rw [HO.out]; rfl) BeL (hN9.out.below hb10) (hK9.out.below hb10) hu9.out
    ·as_aux_lemma =>
      replace q1 : _ = false := q1
      replace q2 : _ = true := q2
      replace q3 : _ = false := q3
      replace q4 : _ = false := q4
      replace q5 : _ = false := q5
      replace q6 : _ = false := q6
      replace q7 : _ = false := q7
      replace q8 : _ = false := q8
      replace q9 : _ = false := q9
      have HC := Lib.hid (show cmdW 2 vs = .bad by unfold cmdW; rw [if_neg (by rintro ⟨h, _⟩; exact hm h.symm)])
      have hv := hV.out
      obtain ⟨m, em⟩ : ∃ m, (vs.map atoV).length = m := ⟨_, rfl⟩
      rw [em] at hv
      rw [List.length_map] at em
      have hm1 : ¬ (m : Int) = 2 := by omega
      have hm2 : ¬ m = 2 := by omega
      obtain ⟨Av, cv, rfl, hv1, hv2⟩ := own_in hv
      clear hv em hV hlen2 hm
      go_wp2_with fail
      go_ret
      exact LineR.bad HN.out HA.out HC.out rfl (hBw.trans (Below.mono (show Below wr.heap.size wr _ from BeL) hzw))
   ·by_cases hm : (vs.length : Int) = 1
    ·as_aux_lemma =>
      replace q1 : _ = false := q1
      replace q2 : _ = false := q2
      replace q3 : _ = true := q3
      replace q4 : _ = false := q4
      replace q5 : _ = false := q5
      replace q6 : _ = false := q6
      replace q7 : _ = false := q7
      replace q8 : _ = false := q8
      replace q9 : _ = false := q9
      obtain ⟨x1, rfl⟩ := onePc hm
      have hn1 : num7B x1 = true := by simpa using HAl.out
      obtain ⟨b1, d1⟩ := num7_bd hn1
      have hA := HA.out
      obtain ⟨n1, en1⟩ : ∃ n, atoV x1 = n := ⟨_, rfl⟩
      obtain ⟨gv, cv, rfl, hgv, hcv, hcm3, yv⟩ := own_i1 (z := atoV x1) hV.out
      rw [en1] at b1 d1 yv
      rw [show cmdW 3 [x1] = .act ((3 : Nat) : Int) (atoV x1) 0 by simp [cmdW, wantN, hn1], en1] at hA
      obtain ⟨c, hNA, rfl⟩ := ans_act hA
      replace hNA : NAct 3 ssR rsR t us S ⟨3, n1, 0⟩ c t' us' S' := hNA
      obtain ⟨k0, k8⟩ := nact_cbd hNA
      have CD := Lib.hid (fun W (hb : Below w.heap.size w W) => snet_Do ssR rsR ⟨3, n1, 0⟩ c (HN.out.below hb) HI1.out HI2.out ⟨by constructor <;> simp, by constructor <;> simp <;> omega, by constructor <;> simp⟩ (by omega) ssR_bd rsR_bd (by rw [h3]; exact hNA))
      clear hV HA HAl hm hlen2 hA hNA en1 hn1
      go_wp2_with fail
      refine (CD.out _ BeL).mono ?_
      rintro e w9 ⟨rfl, uv', hN, hKp, hu⟩
      have hN9 := Lib.hid hN
      have hK9 := Lib.hid hKp
      have hu9 := Lib.hid hu
      clear hN hKp hu
      by_cases hc : c = 0
      ·subst hc
       go_wp2_with fail
       go_ret
       exact LineR.done rfl BeL hN9.out hK9.out hu9.out
      ·have HO := (show ansL [111, 107] c = nameL c from if_neg hc)
       have CM := Lib.hid (fun W => r2_name c W k0 k8)
       obtain ⟨L, eL⟩ : ∃ L, nameL c = L := ⟨_, rfl⟩
       rw [eL] at CM HO
       replace HO := Lib.hid HO
       clear eL
       go_wp2_with fail
       refine (CM.out _).mono ?_
       rintro e w10 ⟨rfl, hb10⟩
       go_wp2_with fail
       go_ret
       exact LineR.done (by rw [HO.out]; rfl) BeL (hN9.out.below hb10) (hK9.out.below hb10) hu9.out
    ·as_aux_lemma =>
      replace q1 : _ = false := q1
      replace q2 : _ = false := q2
      replace q3 : _ = true := q3
      replace q4 : _ = false := q4
      replace q5 : _ = false := q5
      replace q6 : _ = false := q6
      replace q7 : _ = false := q7
      replace q8 : _ = false := q8
      replace q9 : _ = false := q9
      have HC := Lib.hid (show cmdW 3 vs = .bad by unfold cmdW; rw [if_neg (by rintro ⟨h, _⟩; exact hm h.symm)])
      have hv := hV.out
      obtain ⟨m, em⟩ : ∃ m, (vs.map atoV).length = m := ⟨_, rfl⟩
      rw [em] at hv
      rw [List.length_map] at em
      have hm1 : ¬ (m : Int) = 1 := by omega
      have hm2 : ¬ m = 1 := by omega
      obtain ⟨Av, cv, rfl, hv1, hv2⟩ := own_in hv
      clear hv em hV hlen2 hm
      go_wp2_with fail
      go_ret
      exact LineR.bad HN.out HA.out HC.out rfl (hBw.trans (Below.mono (show Below wr.heap.size wr _ from BeL) hzw))
   ·by_cases hm : (vs.length : Int) = 1
    ·as_aux_lemma =>
      replace q1 : _ = false := q1
      replace q2 : _ = false := q2
      replace q3 : _ = false := q3
      replace q4 : _ = true := q4
      replace q5 : _ = false := q5
      replace q6 : _ = false := q6
      replace q7 : _ = false := q7
      replace q8 : _ = false := q8
      replace q9 : _ = false := q9
      obtain ⟨x1, rfl⟩ := onePc hm
      have hn1 : num7B x1 = true := by simpa using HAl.out
      obtain ⟨b1, d1⟩ := num7_bd hn1
      have hA := HA.out
      obtain ⟨n1, en1⟩ : ∃ n, atoV x1 = n := ⟨_, rfl⟩
      obtain ⟨gv, cv, rfl, hgv, hcv, hcm3, yv⟩ := own_i1 (z := atoV x1) hV.out
      rw [en1] at b1 d1 yv
      rw [show cmdW 4 [x1] = .act ((4 : Nat) : Int) (atoV x1) 0 by simp [cmdW, wantN, hn1], en1] at hA
      obtain ⟨c, hNA, rfl⟩ := ans_act hA
      replace hNA : NAct 3 ssR rsR t us S ⟨4, n1, 0⟩ c t' us' S' := hNA
      obtain ⟨k0, k8⟩ := nact_cbd hNA
      have CD := Lib.hid (fun W (hb : Below w.heap.size w W) => snet_Do ssR rsR ⟨4, n1, 0⟩ c (HN.out.below hb) HI1.out HI2.out ⟨by constructor <;> simp, by constructor <;> simp <;> omega, by constructor <;> simp⟩ (by omega) ssR_bd rsR_bd (by rw [h3]; exact hNA))
      clear hV HA HAl hm hlen2 hA hNA en1 hn1
      go_wp2_with fail
      refine (CD.out _ BeL).mono ?_
      rintro e w9 ⟨rfl, uv', hN, hKp, hu⟩
      have hN9 := Lib.hid hN
      have hK9 := Lib.hid hKp
      have hu9 := Lib.hid hu
      clear hN hKp hu
      by_cases hc : c = 0
      ·subst hc
       go_wp2_with fail
       go_ret
       exact LineR.done rfl BeL hN9.out hK9.out hu9.out
      ·have HO := (show ansL [111, 107] c = nameL c from if_neg hc)
       have CM := Lib.hid (fun W => r2_name c W k0 k8)
       obtain ⟨L, eL⟩ : ∃ L, nameL c = L := ⟨_, rfl⟩
       rw [eL] at CM HO
       replace HO := Lib.hid HO
       clear eL
       go_wp2_with fail
       refine (CM.out _).mono ?_
       rintro e w10 ⟨rfl, hb10⟩
       go_wp2_with fail
       go_ret
       exact LineR.done (by rw [HO.out]; rfl) BeL (hN9.out.below hb10) (hK9.out.below hb10) hu9.out
    ·as_aux_lemma =>
      replace q1 : _ = false := q1
      replace q2 : _ = false := q2
      replace q3 : _ = false := q3
      replace q4 : _ = true := q4
      replace q5 : _ = false := q5
      replace q6 : _ = false := q6
      replace q7 : _ = false := q7
      replace q8 : _ = false := q8
      replace q9 : _ = false := q9
      have HC := Lib.hid (show cmdW 4 vs = .bad by unfold cmdW; rw [if_neg (by rintro ⟨h, _⟩; exact hm h.symm)])
      have hv := hV.out
      obtain ⟨m, em⟩ : ∃ m, (vs.map atoV).length = m := ⟨_, rfl⟩
      rw [em] at hv
      rw [List.length_map] at em
      have hm1 : ¬ (m : Int) = 1 := by omega
      have hm2 : ¬ m = 1 := by omega
      obtain ⟨Av, cv, rfl, hv1, hv2⟩ := own_in hv
      clear hv em hV hlen2 hm
      go_wp2_with fail
      go_ret
      exact LineR.bad HN.out HA.out HC.out rfl (hBw.trans (Below.mono (show Below wr.heap.size wr _ from BeL) hzw))
   ·by_cases hm : (vs.length : Int) = 1
    ·as_aux_lemma =>
      replace q1 : _ = false := q1
      replace q2 : _ = false := q2
      replace q3 : _ = false := q3
      replace q4 : _ = false := q4
      replace q5 : _ = true := q5
      replace q6 : _ = false := q6
      replace q7 : _ = false := q7
      replace q8 : _ = false := q8
      replace q9 : _ = false := q9
      obtain ⟨x1, rfl⟩ := onePc hm
      have hn1 : num7B x1 = true := by simpa using HAl.out
      obtain ⟨b1, d1⟩ := num7_bd hn1
      have hA := HA.out
      obtain ⟨n1, en1⟩ : ∃ n, atoV x1 = n := ⟨_, rfl⟩
      obtain ⟨gv, cv, rfl, hgv, hcv, hcm3, yv⟩ := own_i1 (z := atoV x1) hV.out
      rw [en1] at b1 d1 yv
      rw [show cmdW 5 [x1] = .act ((5 : Nat) : Int) (atoV x1) 0 by simp [cmdW, wantN, hn1], en1] at hA
      obtain ⟨c, hNA, rfl⟩ := ans_act hA
      replace hNA : NAct 3 ssR rsR t us S ⟨5, n1, 0⟩ c t' us' S' := hNA
      obtain ⟨k0, k8⟩ := nact_cbd hNA
      have CD := Lib.hid (fun W (hb : Below w.heap.size w W) => snet_Do ssR rsR ⟨5, n1, 0⟩ c (HN.out.below hb) HI1.out HI2.out ⟨by constructor <;> simp, by constructor <;> simp <;> omega, by constructor <;> simp⟩ (by omega) ssR_bd rsR_bd (by rw [h3]; exact hNA))
      clear hV HA HAl hm hlen2 hA hNA en1 hn1
      go_wp2_with fail
      refine (CD.out _ BeL).mono ?_
      rintro e w9 ⟨rfl, uv', hN, hKp, hu⟩
      have hN9 := Lib.hid hN
      have hK9 := Lib.hid hKp
      have hu9 := Lib.hid hu
      clear hN hKp hu
      by_cases hc : c = 0
      ·subst hc
       go_wp2_with fail
       go_ret
       exact LineR.done rfl BeL hN9.out hK9.out hu9.out
      ·have HO := (show ansL [111, 107] c = nameL c from if_neg hc)
       have CM := Lib.hid (fun W => r2_name c W k0 k8)
       obtain ⟨L, eL⟩ : ∃ L, nameL c = L := ⟨_, rfl⟩
       rw [eL] at CM HO
       replace HO := Lib.hid HO
       clear eL
       go_wp2_with fail
       refine (CM.out _).mono ?_
       rintro e w10 ⟨rfl, hb10⟩
       go_wp2_with fail
       go_ret
       exact LineR.done (by rw [HO.out]; rfl) BeL (hN9.out.below hb10) (hK9.out.below hb10) hu9.out
    ·as_aux_lemma =>
      replace q1 : _ = false := q1
      replace q2 : _ = false := q2
      replace q3 : _ = false := q3
      replace q4 : _ = false := q4
      replace q5 : _ = true := q5
      replace q6 : _ = false := q6
      replace q7 : _ = false := q7
      replace q8 : _ = false := q8
      replace q9 : _ = false := q9
      have HC := Lib.hid (show cmdW 5 vs = .bad by unfold cmdW; rw [if_neg (by rintro ⟨h, _⟩; exact hm h.symm)])
      have hv := hV.out
      obtain ⟨m, em⟩ : ∃ m, (vs.map atoV).length = m := ⟨_, rfl⟩
      rw [em] at hv
      rw [List.length_map] at em
      have hm1 : ¬ (m : Int) = 1 := by omega
      have hm2 : ¬ m = 1 := by omega
      obtain ⟨Av, cv, rfl, hv1, hv2⟩ := own_in hv
      clear hv em hV hlen2 hm
      go_wp2_with fail
      go_ret
      exact LineR.bad HN.out HA.out HC.out rfl (hBw.trans (Below.mono (show Below wr.heap.size wr _ from BeL) hzw))
   ·by_cases hm : (vs.length : Int) = 1
    ·as_aux_lemma =>
      replace q1 : _ = false := q1
      replace q2 : _ = false := q2
      replace q3 : _ = false := q3
      replace q4 : _ = false := q4
      replace q5 : _ = false := q5
      replace q6 : _ = true := q6
      replace q7 : _ = false := q7
      replace q8 : _ = false := q8
      replace q9 : _ = false := q9
      obtain ⟨x1, rfl⟩ := onePc hm
      have hn1 : num7B x1 = true := by simpa using HAl.out
      obtain ⟨b1, d1⟩ := num7_bd hn1
      have hA := HA.out
      obtain ⟨n1, en1⟩ : ∃ n, atoV x1 = n := ⟨_, rfl⟩
      obtain ⟨gv, cv, rfl, hgv, hcv, hcm3, yv⟩ := own_i1 (z := atoV x1) hV.out
      rw [en1] at b1 d1 yv
      rw [show cmdW 6 [x1] = .show (atoV x1) by simp [cmdW, wantN, hn1], en1] at hA
      obtain ⟨rfl, rfl, rfl, rfl⟩ := ans_show hA
      have z4 : w.cell? ⟨b.M, 4, none⟩ = some (.slice (some ⟨b.Q, 0, none⟩) b.n b.d) := HN.out.W.blk.cell 4
      rw [h3] at z4
      have kM := HN.out.W.blk.lt
      have kM2 : b.M < wr.heap.size := by omega
      have y4 : wr.cell? ⟨b.M, 4, none⟩ = some (.slice (some ⟨b.Q, 0, none⟩) (3 : Nat) b.d) := (hBw.cell (p := ⟨b.M, 4, none⟩) kM).trans z4
      clear hV HA HAl hm hlen2 hA en1 hn1 z4
      by_cases hi3 : n1 < 3
      ·obtain ⟨i, rfl⟩ := Int.eq_ofNat_of_zero_le b1
       have hi4 : i < 3 := by omega
       have hi5 : ¬ (3 : Int) ≤ (i : Int) := by omega
       have bd := HT.out.C.bd (i := i) (by omega) HT.out.t0 HT.out.t1
       have CR := Lib.hid (fun W (hb : Below w.heap.size w W) => snet_read (HN.out.below hb) HI1.out HI2.out i hi4)
       have HV := Lib.hid (show ansL (Lib.itoa (showV t i)) (showC i) = Lib.itoa (hereAt ssR rsR t i) by unfold ansL showV showC; rw [if_pos hi3, if_pos hi3, if_pos rfl, Int.toNat_natCast])
       obtain ⟨V, eV⟩ : ∃ V, hereAt ssR rsR t i = V := ⟨_, rfl⟩
       rw [eV] at bd CR HV
       have CG := Lib.hid (fun W => r1_Digits V W (by omega) (by omega))
       obtain ⟨L, eL⟩ : ∃ L, Lib.itoa V = L := ⟨_, rfl⟩
       rw [eL] at CG HV
       clear eV eL bd hi4
       go_wp2_with fail
       go_quiet (fail)
       go_wp2_with fail
       refine wp_region_held_drew (S := fun w9 => w9.cell? ⟨gv, 0, none⟩ = some (.int .i64 i) ∧ Below w.heap.size w w9) kRf ((by exact ⟨(Below.cell (B := wr.heap.size) (w := wr) (p := ⟨gv, 0, none⟩) BeL hgv).trans yv, BeL⟩)) (fun hHeld => ?_)
       refine wpAnyH_take (i := 0) (v := .pointer (some ⟨b.M, 0, none⟩)) rfl kRf kRf kRf (fun _ _ _ h => h) (Or.inl ⟨kRf, fun _ _ => by kernel_rfl⟩) hHeld ?_
       refine wpAnyH_take (i := 1) (v := .pointer (some ⟨b.M, 0, none⟩)) rfl kRf kRf kRf (fun _ _ _ h => h) (Or.inl ⟨kRf, fun _ _ => by kernel_rfl⟩) hHeld ?_
       refine wpAnyH_take (i := 2) (v := .pointer (some ⟨b.M, 0, none⟩)) rfl kRf kRf kRf (fun _ _ _ h => h) (Or.inl ⟨kRf, fun _ _ => by kernel_rfl⟩) hHeld ?_
       refine wpAnyH_take (i := 3) (v := .slice (some ⟨gv, 0, none⟩) 1 cv) rfl kRf kRf kRf (fun _ _ _ h => h) (Or.inl ⟨kRf, fun _ _ => by kernel_rfl⟩) hHeld ?_
       refine wpAnyH_take (i := 4) (v := .pointer (some ⟨gv, 0, none⟩)) rfl kRf kRf kRf (fun _ _ _ h => h) (Or.inl ⟨kRf, fun _ _ => by kernel_rfl⟩) hHeld ?_
       try simp only [Act.put,sI_,sZ_,sS_]
       refine wpAnyH_take (i := 5) (v := .int .i64 i) rfl kRf kRf kRf (fun _ _ _ h => h) (Or.inl ⟨kRf, fun w9 hw9 => by (obtain ⟨hw9, _⟩ := hw9; go_simp)⟩) hHeld ?_
       try simp only [Act.put,sI_,sZ_,sS_]
       refine wpAnyH_ready (rs := [6]) kRf (by simp) ?_
       refine AllReadyH.cons rfl (fun K hK => ?_) AllReadyH.nil
       go_simp
       refine (CR.out _ (by have := hHeld.2; exact BeL)).mono ?_
       rintro e w5 ⟨rfl, hb5⟩
       refine hK.out _ _ ((by exact ⟨(hb5.cell (p := ⟨gv, 0, none⟩) (cell_lt hHeld.1)).trans hHeld.1, hHeld.2.trans (hb5.mono hHeld.2.size)⟩)) (fun hHeld2 => ?_)
       clear hK K hHeld
       have hHeld := hHeld2
       try simp only [Act.put,sI_,sZ_,sS_]
       try simp only [Act.put,sI_,sZ_,sS_]
       refine wpAnyH_ready (rs := [7]) kRf (by simp) ?_
       refine AllReadyH.cons rfl (fun K hK => ?_) AllReadyH.nil
       go_simp
       refine (CG.out _).mono ?_
       rintro e w6 ⟨rfl, hb6⟩
       refine hK.out _ _ ((by exact ⟨(hb6.cell (p := ⟨gv, 0, none⟩) (cell_lt hHeld.1)).trans hHeld.1, hHeld.2.trans (hb6.mono hHeld.2.size)⟩)) (fun hHeld2 => ?_)
       clear hK K hHeld
       have hHeld := hHeld2
       try simp only [Act.put,sI_,sZ_,sS_]
       refine tkK 8 (.string ⟨L.toArray⟩) (some 4) rfl hHeld ?_
       try simp only [Act.put,sI_,sZ_,sS_]
       refine wpAnyH_done kRf ?_ _
       try simp only [Act.put,sI_,sZ_,sS_]
       go_wp2_with fail
       go_ret
       exact LineR.read HN.out (by rw [HV.out]; rfl) hHeld.2
      ·have hi3i : (3 : Int) ≤ n1 := by omega
       have HV := Lib.hid (show ansL (Lib.itoa (showV t n1)) (showC n1) = nameL 1 by unfold ansL showC; rw [if_neg hi3, if_neg (by decide)])
       have CM := Lib.hid (fun W => r2_name 1 W (by decide) (by decide))
       obtain ⟨L, eL⟩ : ∃ L, nameL 1 = L := ⟨_, rfl⟩
       rw [eL] at CM HV
       clear eL
       go_wp2_with fail
       go_quiet (fail)
       go_wp2_with fail
       refine (CM.out _).mono ?_
       rintro e w10 ⟨rfl, hb10⟩
       go_wp2_with fail
       go_ret
       exact LineR.read HN.out (by rw [HV.out]; rfl) BeL
    ·as_aux_lemma =>
      replace q1 : _ = false := q1
      replace q2 : _ = false := q2
      replace q3 : _ = false := q3
      replace q4 : _ = false := q4
      replace q5 : _ = false := q5
      replace q6 : _ = true := q6
      replace q7 : _ = false := q7
      replace q8 : _ = false := q8
      replace q9 : _ = false := q9
      have HC := Lib.hid (show cmdW 6 vs = .bad by unfold cmdW; rw [if_neg (by rintro ⟨h, _⟩; exact hm h.symm)])
      have hv := hV.out
      obtain ⟨m, em⟩ : ∃ m, (vs.map atoV).length = m := ⟨_, rfl⟩
      rw [em] at hv
      rw [List.length_map] at em
      have hm1 : ¬ (m : Int) = 1 := by omega
      have hm2 : ¬ m = 1 := by omega
      obtain ⟨Av, cv, rfl, hv1, hv2⟩ := own_in hv
      clear hv em hV hlen2 hm
      go_wp2_with fail
      go_ret
      exact LineR.bad HN.out HA.out HC.out rfl (hBw.trans (Below.mono (show Below wr.heap.size wr _ from BeL) hzw))
   ·by_cases hm : (vs.length : Int) = 1
    ·as_aux_lemma =>
      replace q1 : _ = false := q1
      replace q2 : _ = false := q2
      replace q3 : _ = false := q3
      replace q4 : _ = false := q4
      replace q5 : _ = false := q5
      replace q6 : _ = false := q6
      replace q7 : _ = true := q7
      replace q8 : _ = false := q8
      replace q9 : _ = false := q9
      obtain ⟨x1, rfl⟩ := onePc hm
      have hn1 : num7B x1 = true := by simpa using HAl.out
      obtain ⟨b1, d1⟩ := num7_bd hn1
      have hA := HA.out
      obtain ⟨n1, en1⟩ : ∃ n, atoV x1 = n := ⟨_, rfl⟩
      obtain ⟨gv, cv, rfl, hgv, hcv, hcm3, yv⟩ := own_i1 (z := atoV x1) hV.out
      rw [en1] at b1 d1 yv
      rw [show cmdW 7 [x1] = .date (atoV x1) by simp [cmdW, wantN, hn1], en1] at hA
      obtain ⟨rfl, rfl, rfl, rfl⟩ := ans_date hA
      obtain ⟨hd, hn, hh, hmi, hse⟩ := dateX_ok b1 d1
      obtain ⟨x, ex⟩ : ∃ x, dateX n1 = x := ⟨_, rfl⟩
      have EX := Lib.hid ex
      rw [ex] at hd hn hh hmi hse
      have CU := Lib.hid (fun W => r_utc_nil n1 x W b1 d1 hd hn hh hmi hse)
      have CP := Lib.hid (fun W => r_LabelText x W (labB_iff.2 ⟨hd, by omega, by omega, by omega, by omega, by omega, by omega⟩))
      clear hV HA HAl hm hlen2 hA en1 hn1 hd hn hh hmi hse ex b1 d1
      go_wp2_with fail
      refine (CU.out _).mono ?_
      rintro e w9 ⟨rfl, hb9⟩
      have hz9 := hb9.size
      (try simp at hz9)
      have HB9 : Below w.heap.size w w9 := BeL
      go_wp2_with fail
      refine (CP.out _).mono ?_
      rintro e w10 ⟨rfl, hb10⟩
      go_wp2_with fail
      go_ret
      exact LineR.read HN.out (by rw [EX.out]; rfl) BeL
    ·as_aux_lemma =>
      replace q1 : _ = false := q1
      replace q2 : _ = false := q2
      replace q3 : _ = false := q3
      replace q4 : _ = false := q4
      replace q5 : _ = false := q5
      replace q6 : _ = false := q6
      replace q7 : _ = true := q7
      replace q8 : _ = false := q8
      replace q9 : _ = false := q9
      have HC := Lib.hid (show cmdW 7 vs = .bad by unfold cmdW; rw [if_neg (by rintro ⟨h, _⟩; exact hm h.symm)])
      have hv := hV.out
      obtain ⟨m, em⟩ : ∃ m, (vs.map atoV).length = m := ⟨_, rfl⟩
      rw [em] at hv
      rw [List.length_map] at em
      have hm1 : ¬ (m : Int) = 1 := by omega
      have hm2 : ¬ m = 1 := by omega
      obtain ⟨Av, cv, rfl, hv1, hv2⟩ := own_in hv
      clear hv em hV hlen2 hm
      go_wp2_with fail
      go_ret
      exact LineR.bad HN.out HA.out HC.out rfl (hBw.trans (Below.mono (show Below wr.heap.size wr _ from BeL) hzw))
   ·by_cases hm : (vs.length : Int) = 2
    ·as_aux_lemma =>
      replace q1 : _ = false := q1
      replace q2 : _ = false := q2
      replace q3 : _ = false := q3
      replace q4 : _ = false := q4
      replace q5 : _ = false := q5
      replace q6 : _ = false := q6
      replace q7 : _ = false := q7
      replace q8 : _ = true := q8
      replace q9 : _ = false := q9
      obtain ⟨x1, x2, rfl⟩ := twoPc hm
      have hn12 : num7B x1 = true ∧ num7B x2 = true := by simpa using HAl.out
      obtain ⟨hn1, hn2⟩ := hn12
      obtain ⟨b1, d1⟩ := num7_bd hn1
      obtain ⟨b2, d2⟩ := num7_bd hn2
      have hA := HA.out
      obtain ⟨n1, en1⟩ : ∃ n, atoV x1 = n := ⟨_, rfl⟩
      obtain ⟨n2, en2⟩ : ∃ n, atoV x2 = n := ⟨_, rfl⟩
      obtain ⟨gv, cv, rfl, hgv, hcv, hcm3, yv, yu⟩ := own_i2 (y := atoV x1) (z := atoV x2) hV.out
      rw [en1] at b1 d1 yv
      rw [en2] at b2 d2 yu
      rw [show cmdW 8 [x1, x2] = .offset (atoV x1) (atoV x2) by simp [cmdW, wantN, hn1, hn2], en1, en2] at hA
      obtain ⟨z, c, hO, eout, rfl, rfl, rfl⟩ := ans_offset hA
      obtain ⟨k0, k8⟩ := off_cbd HT.out hO
      have hR : c = 0 → rightB z.lo z.hi = true := fun e => HT.out.off_right (by decide) (by rw [e] at hO; exact hO)
      have CD := Lib.hid (fun W (hb : Below w.heap.size w W) => show Calls Tryz.prog 23 #[.pointer (some ⟨b.M, 0, none⟩), .int .i64 n1, .int .i64 n2] W (fun e w' => e = .returned (.tuple #[.agg #[.int .i64 z.lo, .int .i64 z.hi], .int .i64 c]) ∧ Below W.heap.size W w') from by
       refine (snet_Offset ssR rsR (HN.out.below hb) HI1.out HI2.out (by omega) (by omega) ssR_bd rsR_bd n1 n2).mono ?_
       rintro e w' ⟨y, d, he, hR, hb9⟩
       rw [h3] at hR
       obtain ⟨e1, e2⟩ := off_same (fun _ => HT.out.edgesC (by decide)) hO hR
       subst e1
       subst e2
       exact ⟨he, hb9⟩)
      obtain ⟨zl, ezl⟩ : ∃ q, z.lo = q := ⟨_, rfl⟩
      obtain ⟨zh, ezh⟩ : ∃ q, z.hi = q := ⟨_, rfl⟩
      rw [ezl, ezh] at CD eout hR
      have HOut := Lib.hid eout
      have HRt := Lib.hid hR
      clear hV HA HAl hm hlen2 hA en1 hn1 en2 hn2 hO eout hR ezl ezh
      go_upto_region 38 with fail
      go_cut [13, 14] (fun pv ev wx => ∃ g : Nat, pv = .pointer (some ⟨g, 0, none⟩) ∧ ev = .int .i64 c ∧ Blk wx g 34 #[.int .i64 zl, .int .i64 zh] ∧ Below w.heap.size w wx ∧ w.heap.size ≤ g)
      case first =>
       go_wp2_with fail
       obtain ⟨W1, hW1⟩ : ∃ W, wr.alloc (.cells #[.int .i64 0, .int .i64 0, .int .i64 0] 71) = W := ⟨_, rfl⟩
       have HB1 : Below w.heap.size w W1 := by rw [← hW1]; exact BeL
       have hgv1 : gv < W1.heap.size := by rw [← hW1]; simp; omega
       have hw1s : w.heap.size ≤ W1.heap.size := HB1.size
       have x0 : W1.cell? ⟨gv, 0, none⟩ = some (.int .i64 n1) := by rw [← hW1]; exact (Below.cell (B := wr.heap.size) (w := wr) (p := ⟨gv, 0, none⟩) BeL hgv).trans yv
       have x1 : W1.cell? ⟨gv, 1, none⟩ = some (.int .i64 n2) := by rw [← hW1]; exact (Below.cell (B := wr.heap.size) (w := wr) (p := ⟨gv, 1, none⟩) BeL hgv).trans yu
       rw [hW1]
       clear hW1
       refine wp_region_held_drew (S := fun w9 => Below W1.heap.size W1 w9) kRf ((by exact BeL)) (fun hHeld => ?_)
       refine wpAnyH_take (i := 0) (v := .pointer (some ⟨b.M, 0, none⟩)) rfl kRf kRf kRf (fun _ _ _ h => h) (Or.inl ⟨kRf, fun _ _ => by kernel_rfl⟩) hHeld ?_
       refine wpAnyH_take (i := 1) (v := .slice (some ⟨gv, 0, none⟩) 2 cv) rfl kRf kRf kRf (fun _ _ _ h => h) (Or.inl ⟨kRf, fun _ _ => by kernel_rfl⟩) hHeld ?_
       refine wpAnyH_take (i := 2) (v := .pointer (some ⟨gv, 0, none⟩)) rfl kRf kRf kRf (fun _ _ _ h => h) (Or.inl ⟨kRf, fun _ _ => by kernel_rfl⟩) hHeld ?_
       try simp only [Act.put,sI_,sZ_,sS_]
       refine wpAnyH_take (i := 3) (v := .int .i64 n1) rfl kRf kRf kRf (fun _ _ _ h => h) (Or.inl ⟨kRf, fun w9 hw9 => by (have z := (hw9.cell (p := ⟨gv, 0, none⟩) hgv1).trans x0; go_simp)⟩) hHeld ?_
       refine wpAnyH_take (i := 4) (v := .slice (some ⟨gv, 0, none⟩) 2 cv) rfl kRf kRf kRf (fun _ _ _ h => h) (Or.inl ⟨kRf, fun _ _ => by kernel_rfl⟩) hHeld ?_
       refine wpAnyH_take (i := 5) (v := .pointer (some ⟨gv, 1, none⟩)) rfl kRf kRf kRf (fun _ _ _ h => h) (Or.inl ⟨kRf, fun _ _ => by kernel_rfl⟩) hHeld ?_
       try simp only [Act.put,sI_,sZ_,sS_]
       refine wpAnyH_take (i := 6) (v := .int .i64 n2) rfl kRf kRf kRf (fun _ _ _ h => h) (Or.inl ⟨kRf, fun w9 hw9 => by (have z := (hw9.cell (p := ⟨gv, 1, none⟩) hgv1).trans x1; go_simp)⟩) hHeld ?_
       try simp only [Act.put,sI_,sZ_,sS_]
       refine wpAnyH_ready (rs := [7, 11]) kRf (by simp) ?_
       refine AllReadyH.cons rfl (fun K hK => ?_) (AllReadyH.cons rfl (fun K hK => ?_) AllReadyH.nil)
       ·go_simp
        refine (CD.out _ (by exact BeL)).mono ?_
        rintro e w5 ⟨rfl, hb5⟩
        have hz5 := hb5.size
        (try simp at hz5)
        have HB5 : Below W1.heap.size W1 w5 := BeL
        refine hK.out _ _ (HB5) (fun hHeld2 => ?_); clear hK K hHeld; have hHeld := hHeld2; clear hHeld2
        try simp only [Act.put,sI_,sZ_,sS_]
        refine tkK 8 (.tuple #[.agg #[.int .i64 zl, .int .i64 zh], .int .i64 c]) (some 128) rfl hHeld ?_
        refine tkK 9 (.agg #[.int .i64 zl, .int .i64 zh]) (some 137) rfl hHeld ?_
        refine tkK 10 (.int .i64 c) (some 138) rfl hHeld ?_
        try simp only [Act.put,sI_,sZ_,sS_]
        try simp only [Act.put,sI_,sZ_,sS_]
        refine wpAnyH_ready (rs := [11]) kRf (by simp) ?_; refine AllReadyH.cons rfl (fun K hK => ?_) AllReadyH.nil
        go_simp
        refine hK.out _ _ ((by exact BeL)) (fun hHeld2 => ?_); clear hK K hHeld; have hHeld := hHeld2; clear hHeld2
        try simp only [Act.put,sI_,sZ_,sS_]
        refine wpAnyH_ready (rs := [12]) kRf (by simp) ?_; refine AllReadyH.cons rfl (fun K hK => ?_) AllReadyH.nil
        go_simp
        refine hK.out _ _ ((by exact BeL)) (fun hHeld2 => ?_); clear hK K hHeld; have hHeld := hHeld2; clear hHeld2
        try simp only [Act.put,sI_,sZ_,sS_]
        refine tkK 13 (.int .i64 c) (some 14) rfl hHeld ?_
        try simp only [Act.put,sI_,sZ_,sS_]
        refine wpAnyH_done kRf ?_ _
        try simp only [Act.put,sI_,sZ_,sS_]
        go_wp2_with fail
        go_meet
        case rel => exact ⟨_, rfl, rfl, Blk.new _ _ _, BeL, by omega⟩
       ·go_simp
        refine hK.out _ _ ((by exact BeL)) (fun hHeld2 => ?_); clear hK K hHeld; have hHeld := hHeld2; clear hHeld2
        try simp only [Act.put,sI_,sZ_,sS_]
        refine wpAnyH_ready (rs := [7]) kRf (by simp) ?_; refine AllReadyH.cons rfl (fun K hK => ?_) AllReadyH.nil
        go_simp
        refine (CD.out _ (by exact BeL)).mono ?_
        rintro e w5 ⟨rfl, hb5⟩
        have hz5 := hb5.size
        (try simp at hz5)
        have bz : Blk w5 W1.heap.size 34 #[.int .i64 0, .int .i64 0] := BkD
        have HB5 : Below W1.heap.size W1 w5 := BeL
        have t0 := bz.cell 0
        have t1 := bz.cell 1
        simp at t0 t1
        have tf := fun o => bz.fz o
        have tl := bz.lt
        have HBZ := Lib.hid bz
        clear bz
        refine hK.out _ _ (HB5) (fun hHeld2 => ?_); clear hK K hHeld; have hHeld := hHeld2; clear hHeld2
        try simp only [Act.put,sI_,sZ_,sS_]
        refine tkK 8 (.tuple #[.agg #[.int .i64 zl, .int .i64 zh], .int .i64 c]) (some 128) rfl hHeld ?_
        refine tkK 9 (.agg #[.int .i64 zl, .int .i64 zh]) (some 137) rfl hHeld ?_
        refine tkK 10 (.int .i64 c) (some 138) rfl hHeld ?_
        try simp only [Act.put,sI_,sZ_,sS_]
        try simp only [Act.put,sI_,sZ_,sS_]
        refine wpAnyH_ready (rs := [12]) kRf (by simp) ?_; refine AllReadyH.cons rfl (fun K hK => ?_) AllReadyH.nil
        go_simp
        refine hK.out _ _ ((by exact BeL)) (fun hHeld2 => ?_); clear hK K hHeld; have hHeld := hHeld2; clear hHeld2
        try simp only [Act.put,sI_,sZ_,sS_]
        refine tkK 13 (.int .i64 c) (some 14) rfl hHeld ?_
        try simp only [Act.put,sI_,sZ_,sS_]
        refine wpAnyH_done kRf ?_ _
        try simp only [Act.put,sI_,sZ_,sS_]
        have HB3 := Lib.hid (((HBZ.out.set 0 (.int .i64 zl)).set 1 (.int .i64 zh)).conv (show _ = #[.int .i64 zl, .int .i64 zh] from rfl))
        clear t0 t1 tf tl
        go_wp2_with fail
        go_meet
        case rel => exact ⟨_, rfl, rfl, HB3.out, BeL, by omega⟩
      case rest =>
       obtain ⟨g, rfl, rfl, hbl, hBc, hg⟩ := hcut
       have t0 := hbl.cell 0
       have t1 := hbl.cell 1
       simp at t0 t1
       have tl := hbl.lt
       have hzc := hBc.size
       clear hbl hBw
       by_cases hc : c = 0
       ·subst hc
        have CT := Lib.hid (fun W => r1_SpanText zl zh W (HRt.out rfl))
        have HV := (show out = printL zl zh by rw [HOut.out]; unfold ansL printS; rw [if_pos rfl, if_pos rfl, if_pos (HRt.out rfl)])
        obtain ⟨L, eL⟩ : ∃ L, printL zl zh = L := ⟨_, rfl⟩
        rw [eL] at CT HV
        replace HV := Lib.hid HV
        clear eL
        go_wp2_with fail
        refine (CT.out _).mono ?_
        rintro e w10 ⟨rfl, hb10⟩
        go_wp2_with fail
        go_ret
        exact LineR.read HN.out (by rw [HV.out]; rfl) BeL
       ·have CM := Lib.hid (fun W => r2_name c W k0 k8)
        have HV := (show out = nameL c by rw [HOut.out]; unfold ansL; rw [if_neg hc])
        obtain ⟨L, eL⟩ : ∃ L, nameL c = L := ⟨_, rfl⟩
        rw [eL] at CM HV
        replace HV := Lib.hid HV
        clear eL
        go_wp2_with fail
        refine (CM.out _).mono ?_
        rintro e w10 ⟨rfl, hb10⟩
        go_wp2_with fail
        go_ret
        exact LineR.read HN.out (by rw [HV.out]; rfl) BeL
    ·as_aux_lemma =>
      replace q1 : _ = false := q1
      replace q2 : _ = false := q2
      replace q3 : _ = false := q3
      replace q4 : _ = false := q4
      replace q5 : _ = false := q5
      replace q6 : _ = false := q6
      replace q7 : _ = false := q7
      replace q8 : _ = true := q8
      replace q9 : _ = false := q9
      have HC := Lib.hid (show cmdW 8 vs = .bad by unfold cmdW; rw [if_neg (by rintro ⟨h, _⟩; exact hm h.symm)])
      have hv := hV.out
      obtain ⟨m, em⟩ : ∃ m, (vs.map atoV).length = m := ⟨_, rfl⟩
      rw [em] at hv
      rw [List.length_map] at em
      have hm1 : ¬ (m : Int) = 2 := by omega
      have hm2 : ¬ m = 2 := by omega
      obtain ⟨Av, cv, rfl, hv1, hv2⟩ := own_in hv
      clear hv em hV hlen2 hm
      go_wp2_with fail
      go_ret
      exact LineR.bad HN.out HA.out HC.out rfl (hBw.trans (Below.mono (show Below wr.heap.size wr _ from BeL) hzw))
   ·by_cases hm : (vs.length : Int) = 0
    ·as_aux_lemma =>
      replace q1 : _ = false := q1
      replace q2 : _ = false := q2
      replace q3 : _ = false := q3
      replace q4 : _ = false := q4
      replace q5 : _ = false := q5
      replace q6 : _ = false := q6
      replace q7 : _ = false := q7
      replace q8 : _ = false := q8
      replace q9 : _ = true := q9
      obtain rfl : vs = [] := List.length_eq_zero_iff.1 (by omega)
      have hA := HA.out
      rw [show cmdW 9 [] = .wide by simp [cmdW, wantN]] at hA
      obtain ⟨v, c, hW, rfl, rfl, rfl, rfl⟩ := ans_wide hA
      obtain ⟨rfl, v0, v1⟩ := HT.out.wide_bd hW
      have HWd := Lib.hid hW
      have CD := Lib.hid (fun W (hb : Below w.heap.size w W) => snet_Wide ssR rsR (HN.out.below hb) HI1.out HI2.out (by omega) (by omega) ssR_bd rsR_bd)
      rw [h3] at CD
      have CG := Lib.hid (fun W => r1_Digits v W v0 v1)
      obtain ⟨L, eL⟩ : ∃ L, Lib.itoa v = L := ⟨_, rfl⟩
      have HV := Lib.hid (show ansL (Lib.itoa v) 0 = L from (show ansL (Lib.itoa v) 0 = Lib.itoa v from rfl).trans eL)
      rw [eL] at CG
      obtain ⟨Av, cv, rfl, hv1, hv2⟩ := own_in hV.out
      clear hV HA HAl hm hlen2 hA hW eL
      go_wp2_with fail
      refine (CD.out _ BeL).mono ?_
      rintro e w9 ⟨u, d, rfl, hR, hb9⟩
      obtain ⟨e1, e2⟩ := wide_same HWd.out hR
      subst e1
      subst e2
      clear hR
      have hz9 := hb9.size
      (try simp at hz9)
      have HB9 : Below w.heap.size w w9 := BeL
      go_wp2_with fail
      refine (CG.out _).mono ?_
      rintro e w10 ⟨rfl, hb10⟩
      go_wp2_with fail
      go_ret
      exact LineR.read HN.out (by rw [HV.out]; rfl) BeL
    ·as_aux_lemma =>
      replace q1 : _ = false := q1
      replace q2 : _ = false := q2
      replace q3 : _ = false := q3
      replace q4 : _ = false := q4
      replace q5 : _ = false := q5
      replace q6 : _ = false := q6
      replace q7 : _ = false := q7
      replace q8 : _ = false := q8
      replace q9 : _ = true := q9
      have HC := Lib.hid (show cmdW 9 vs = .bad by unfold cmdW; rw [if_neg (by rintro ⟨h, _⟩; exact hm h.symm)])
      have hv := hV.out
      obtain ⟨m, em⟩ : ∃ m, (vs.map atoV).length = m := ⟨_, rfl⟩
      rw [em] at hv
      rw [List.length_map] at em
      have hm1 : ¬ (m : Int) = 0 := by omega
      have hm2 : ¬ m = 0 := by omega
      obtain ⟨Av, cv, rfl, hv1, hv2⟩ := own_in hv
      clear hv em hV hlen2 hm
      go_wp2_with fail
      go_ret
      exact LineR.bad HN.out HA.out HC.out rfl (hBw.trans (Below.mono (show Below wr.heap.size wr _ from BeL) hzw))
end Go.Proofs.YtldlandcjegikaaGreatDoor
