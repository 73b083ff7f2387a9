/- Package run, walked: a line. -/
import Derived.Test.YtldlandcjegikaaGreatDoorHK9
import Derived.Test.YtldlandcjegikaaGreatDoorHK6
import Derived.Test.YtldlandcjegikaaGreatDoorHNetD
import Derived.Test.YtldlandcjegikaaGreatDoorHLabel
namespace Go.Proofs.YtldlandcjegikaaGreatDoor
open Go.RowKit
set_option linter.unusedVariables false
set_option linter.unusedSimpArgs false
def LineDone (w : World) (a : NAd) (uv : Value) (K : Nat) (o : List UInt8) (c t' : Int) (us' : List RLetter) (S' : Nat → NSt) (e : Ending) (w' : World) : Prop :=
 e = .returned (.tuple #[.string ⟨o.toArray⟩, errV c]) ∧ ∃ uv' K', K' ≤ K + 1 ∧ NetAt w' a ssR rsR 100 t' uv' us' K' S' ∧ Kept (NetMine a uv) w w' ∧ (∀ q, uv'.ownBlock = some q → uv.ownBlock = some q ∨ w.heap.size ≤ q)
def LineBad (w : World) (e : Ending) (w' : World) : Prop :=
 e = .returned (.tuple #[.string ⟨#[]⟩, .iface 104 (.agg #[.iface 88 (.int .i64 2)])]) ∧ Below w.heap.size w w'
def UnreadAt (w : World) : Prop := w.cell? ⟨0, 0, none⟩ = some (.iface 88 (.int .i64 2))
theorem UnreadAt.below {w w' : World} (h : UnreadAt w) (hb : Below w.heap.size w w') : UnreadAt w' := (hb.cell (p := ⟨0, 0, none⟩) (cell_lt h)).trans h
section
variable {w W : World} {a : NAd} {t : Int} {uv : Value} {us : List RLetter} {K : Nat} {S : Nat → NSt} {s x0 x1 x2 : ByteArray}
theorem LineDone.read {o : List UInt8} {c : Int} {e : Ending} (he : e = .returned (.tuple #[.string ⟨o.toArray⟩, errV c])) (h : NetAt w a ssR rsR 100 t uv us K S) (hb : Below w.heap.size w W) : LineDone w a uv K o c t us S e W :=
 ⟨he, uv, K, Nat.le_succ K, h.below hb, (Kept.refl _ w).below hb, fun _ e => .inl e⟩
theorem LineDone.done {o : List UInt8} {c t' : Int} {us' : List RLetter} {S' : Nat → NSt} {e : Ending} {uv' : Value} {w2 : World} (he : e = .returned (.tuple #[.string ⟨o.toArray⟩, errV c])) (hb : Below w.heap.size w W) (hN : NetAt w2 a ssR rsR 100 t' uv' us' (K + 1) S') (hK : Kept (NetMine a uv) W w2) (hu : ∀ q, uv'.ownBlock = some q → uv.ownBlock = some q ∨ W.heap.size ≤ q) : LineDone w a uv K o c t' us' S' e w2 :=
 ⟨he, uv', K + 1, Nat.le_refl _, hN, ((Kept.refl _ w).below hb).trans hK (fun _ e => .inl e), fun q e => (hu q e).imp id (fun h => Nat.le_trans hb.size h)⟩
end

section
variable {w : World} {a : NAd} {t : Int} {uv : Value} {us : List RLetter} {K : Nat} {S : Nat → NSt} {s x0 x1 x2 : ByteArray}
set_option maxRecDepth 100000 in
set_option maxHeartbeats 8000000 in
theorem line_act1 (HS : SpanW w) (hs : s.size ≤ 1048576) (hc : Lib.countB s ⟨#[32]⟩ + 1 = 2) (hw : Lib.splitB ⟨#[32]⟩ 0 (Lib.countB s ⟨#[32]⟩) s = [x0, x1]) (hx1 : x1.size ≤ 1048576) (h : NetAt w a ssR rsR 100 t uv us K S) (h3 : a.n = 3) (hK : K < 100000) (k : Nat) (c t' : Int) (us' : List RLetter) (S' : Nat → NSt) (hq : Eqs x0 k) (hk : k = 1 ∨ k = 3 ∨ k = 4 ∨ k = 5) (hn1 : num7B x1.data.toList = true) (hA : NAct 3 ssR rsR t us S ⟨k, atoV x1.data.toList, 0⟩ c t' us' S') :
  Calls Tryz.prog 37 #[.agg #[.pointer (some ⟨a.N, 0, none⟩)], .string s] w (LineDone w a uv K [111, 107] c t' us' S') := by
 have CS := split_any s
 rw [hw, hc] at CS
 replace CS := Lib.hid CS
 have CW := Lib.hid (fun w => show Calls Tryz.prog 61 #[.string x0] w fun e w' => e = .returned (.tuple #[.int .i64 1, .bool true]) ∧ w = w' by have := run_wants x0 k (by omega) hq w; rcases hk with rfl | rfl | rfl | rfl <;> exact this)
 have CA := Lib.hid (fun w => show Calls Tryz.prog 63 #[.string x0] w fun e w' => e = .returned (.tuple #[.int .i64 k, .bool true]) ∧ w = w' by have := run_acts x0 k (by omega) hq w; rcases hk with rfl | rfl | rfl | rfl <;> exact this)
 obtain ⟨n1, en1⟩ : ∃ n, atoV x1.data.toList = n := ⟨_, rfl⟩
 have CN1 := Lib.hid (fun w h => by have := run_number x1 w h hx1; rw [hn1, en1] at this; exact this)
 obtain ⟨b1, d1⟩ := num7_bd hn1
 rw [en1] at b1 d1
 rw [en1] at hA
 obtain ⟨k', ek⟩ : ∃ k' : Int, (k : Int) = k' := ⟨_, rfl⟩
 rw [ek] at hA CA
 have k0 : 0 ≤ k' := by omega
 have k1 : k' ≤ 5 := by omega
 have CD := Lib.hid (fun w' (hb : Below w.heap.size w w') => net_Do a ssR rsR 100 t t' uv us us' K S S' ⟨k', n1, 0⟩ c w' (h.below hb) ⟨by constructor <;> simp <;> omega, by constructor <;> simp <;> omega, by constructor <;> simp⟩ hK (by rw [h3]; exact hA))
 clear h hq hk hn1 hA en1 ek k0 k1
 have HW := Lib.hid HS
 have hs2 := hs
 clear HS hw hc
 go_enter Tryz.func37, Tryz.ntmps37
 go_wp2_with (first | (go_at_call 60; refine (CS.out _ (SpanW.below HW.out BeL) hs2).mono ?_; rintro e w' ⟨rfl, rfl⟩) | (go_at_call 61; refine (CW.out _).mono ?_; rintro e w' ⟨rfl, rfl⟩))
 refine wp_loop_rounds 2 ?_
 rw [rounds_succ]
 go_wp2_with (go_at_call 62; refine (CN1.out _ (SpanW.below HW.out BeL)).mono ?_; rintro e w1 ⟨rfl, hb1⟩; obtain ⟨hc1, hf1⟩ := bcell hb1; have hz1 := hb1.size; (try simp at hz1))
 rw [rounds_succ]
 go_wp2_with (go_at_call 63; refine (CA.out _).mono ?_; rintro e w' ⟨rfl, rfl⟩)
 refine (CD.out _ BeL).mono ?_
 rintro e w9 ⟨rfl, uv', hN, hKp, hu⟩
 go_wp2_with fail
 go_ret2
 exact LineDone.done rfl BeL hN hKp hu
set_option maxRecDepth 100000 in
set_option maxHeartbeats 8000000 in
theorem line_ask (HS : SpanW w) (hs : s.size ≤ 1048576) (hc : Lib.countB s ⟨#[32]⟩ + 1 = 3) (hw : Lib.splitB ⟨#[32]⟩ 0 (Lib.countB s ⟨#[32]⟩) s = [x0, x1, x2]) (hx1 : x1.size ≤ 1048576) (hx2 : x2.size ≤ 1048576) (h : NetAt w a ssR rsR 100 t uv us K S) (h3 : a.n = 3) (hK : K < 100000) (c t' : Int) (us' : List RLetter) (S' : Nat → NSt) (hq : Eqs x0 2) (hn1 : num7B x1.data.toList = true) (hn2 : num7B x2.data.toList = true) (hA : NAct 3 ssR rsR t us S ⟨2, atoV x1.data.toList, atoV x2.data.toList⟩ c t' us' S') :
  Calls Tryz.prog 37 #[.agg #[.pointer (some ⟨a.N, 0, none⟩)], .string s] w (LineDone w a uv K [111, 107] c t' us' S') := by
 have CS := split_any s
 rw [hw, hc] at CS
 replace CS := Lib.hid CS
 have CW := Lib.hid (fun w => show Calls Tryz.prog 61 #[.string x0] w fun e w' => e = .returned (.tuple #[.int .i64 2, .bool true]) ∧ w = w' by have := run_wants x0 2 (by omega) hq w; exact this)
 have CA := Lib.hid (fun w => show Calls Tryz.prog 63 #[.string x0] w fun e w' => e = .returned (.tuple #[.int .i64 2, .bool true]) ∧ w = w' by have := run_acts x0 2 (by omega) hq w; exact this)
 obtain ⟨n1, en1⟩ : ∃ n, atoV x1.data.toList = n := ⟨_, rfl⟩
 have CN1 := Lib.hid (fun w h => by have := run_number x1 w h hx1; rw [hn1, en1] at this; exact this)
 obtain ⟨b1, d1⟩ := num7_bd hn1
 rw [en1] at b1 d1
 obtain ⟨n2, en2⟩ : ∃ n, atoV x2.data.toList = n := ⟨_, rfl⟩
 have CN2 := Lib.hid (fun w h => by have := run_number x2 w h hx2; rw [hn2, en2] at this; exact this)
 obtain ⟨b2, d2⟩ := num7_bd hn2
 rw [en2] at b2 d2
 rw [en1, en2] at hA
 have CD := Lib.hid (fun w' (hb : Below w.heap.size w w') => net_Do a ssR rsR 100 t t' uv us us' K S S' ⟨2, n1, n2⟩ c w' (h.below hb) ⟨by constructor <;> simp, by constructor <;> simp <;> omega, by constructor <;> simp <;> omega⟩ hK (by rw [h3]; exact hA))
 clear h hq hn1 hn2 hA en1 en2
 have HW := Lib.hid HS
 have hs2 := hs
 clear HS hw hc
 go_enter Tryz.func37, Tryz.ntmps37
 go_wp2_with (first | (go_at_call 60; refine (CS.out _ (SpanW.below HW.out BeL) hs2).mono ?_; rintro e w' ⟨rfl, rfl⟩) | (go_at_call 61; refine (CW.out _).mono ?_; rintro e w' ⟨rfl, rfl⟩))
 refine wp_loop_rounds 3 ?_
 rw [rounds_succ]
 go_wp2_with (go_at_call 62; refine (CN1.out _ (SpanW.below HW.out BeL)).mono ?_; rintro e w1 ⟨rfl, hb1⟩; obtain ⟨hc1, hf1⟩ := bcell hb1; have hz1 := hb1.size; (try simp at hz1))
 rw [rounds_succ]
 go_wp2_with fail
 refine (CN2.out _ (SpanW.below HW.out BeL)).mono ?_
 rintro e w2 ⟨rfl, hb2⟩
 have kb2 : Blk w2 (w.heap.size + 1 + 1) 142 #[.int .i64 n1, .int .i64 0] := BkD
 have y20 := kb2.cell 0
 have y21 := kb2.cell 1
 have z21 := kb2.fz 1
 simp at y20 y21
 have kw2 : Blk w2 (w.heap.size + 1) 9 #[.string x0, .string x1, .string x2] := BkD
 have kd2 : Blk w2 w.heap.size 46 #[.pointer (some ⟨a.N, 0, none⟩)] := BkD
 have y22 := kw2.cell 0
 have y23 := kd2.cell 0
 simp at y22 y23
 have l20 := kb2.lt
 have l21 := kw2.lt
 have l22 := kd2.lt
 have hz2 := hb2.size
 (try simp at hz2)
 have HB2 : Below w.heap.size w w2 := BeL
 go_wp2_with fail
 rw [rounds_succ]
 go_wp2_with (go_at_call 63; refine (CA.out _).mono ?_; rintro e w' ⟨rfl, rfl⟩)
 refine (CD.out _ BeL).mono ?_
 rintro e w9 ⟨rfl, uv', hN, hKp, hu⟩
 go_wp2_with fail
 go_ret2
 exact LineDone.done rfl BeL hN hKp hu
set_option maxRecDepth 100000 in
set_option maxHeartbeats 8000000 in
theorem line_show (HS : SpanW w) (hs : s.size ≤ 1048576) (hc : Lib.countB s ⟨#[32]⟩ + 1 = 2) (hw : Lib.splitB ⟨#[32]⟩ 0 (Lib.countB s ⟨#[32]⟩) s = [x0, x1]) (hx1 : x1.size ≤ 1048576) (h : NetAt w a ssR rsR 100 t uv us K S) (h3 : a.n = 3) (hq : Eqs x0 6) (hn1 : num7B x1.data.toList = true) (C : ∀ w', Below w.heap.size w w' → ∀ i : Int, 0 ≤ i → i ≤ 9999999 → (-9223372036854775808 ≤ showV t i ∧ showV t i ≤ 9223372036854775807) ∧ Calls Tryz.prog 65 #[.pointer (some ⟨a.N, 0, none⟩), .int .i64 i] w' fun e w'' => e = .returned (.tuple #[.int .i64 (showV t i), errV (showC i)]) ∧ Below w'.heap.size w' w'') :
  Calls Tryz.prog 37 #[.agg #[.pointer (some ⟨a.N, 0, none⟩)], .string s] w (LineDone w a uv K (Lib.itoa (showV t (atoV x1.data.toList))) (showC (atoV x1.data.toList)) t us S) := by
 have CS := split_any s
 rw [hw, hc] at CS
 replace CS := Lib.hid CS
 have CW := Lib.hid (fun w => show Calls Tryz.prog 61 #[.string x0] w fun e w' => e = .returned (.tuple #[.int .i64 1, .bool true]) ∧ w = w' by have := run_wants x0 6 (by omega) hq w; exact this)
 have CA := Lib.hid (fun w => show Calls Tryz.prog 63 #[.string x0] w fun e w' => e = .returned (.tuple #[.int .i64 0, .bool false]) ∧ w = w' by have := run_acts x0 6 (by omega) hq w; exact this)
 have q6 : (x0.toList == [115, 104, 111, 119]) = true := hq.q6
 have q8 : (x0.toList == [111, 102, 102, 115, 101, 116]) = false := hq.q8
 have q9 : (x0.toList == [119, 105, 100, 101]) = false := hq.q9
 obtain ⟨n1, en1⟩ : ∃ n, atoV x1.data.toList = n := ⟨_, rfl⟩
 have CN1 := Lib.hid (fun w h => by have := run_number x1 w h hx1; rw [hn1, en1] at this; exact this)
 obtain ⟨b1, d1⟩ := num7_bd hn1
 rw [en1] at b1 d1
 rw [en1]
 obtain ⟨⟨v0, v1⟩, _⟩ := C w (Below.refl _ _) n1 b1 d1
 have CC := Lib.hid (fun w' hb => (C w' hb n1 b1 d1).2)
 obtain ⟨v, ev⟩ : ∃ v, showV t n1 = v := ⟨_, rfl⟩
 obtain ⟨c, ec⟩ : ∃ c, showC n1 = c := ⟨_, rfl⟩
 rw [ev, ec] at CC
 rw [ev] at v0 v1
 rw [ev, ec]
 obtain ⟨sv, esv, lsv, CI⟩ := itoa_let v v0 v1
 replace CI := Lib.hid CI
 have HU := Lib.hid h
 obtain ⟨L, eL⟩ : ∃ L, Lib.itoa v = L := ⟨_, rfl⟩
 rw [eL] at esv ⊢
 subst esv
 clear h hq hn1 en1 C ev ec v0 v1 eL
 have HW := Lib.hid HS
 have hs2 := hs
 clear HS hw hc
 go_enter Tryz.func37, Tryz.ntmps37
 go_wp2_with (first | (go_at_call 60; refine (CS.out _ (SpanW.below HW.out BeL) hs2).mono ?_; rintro e w' ⟨rfl, rfl⟩) | (go_at_call 61; refine (CW.out _).mono ?_; rintro e w' ⟨rfl, rfl⟩))
 refine wp_loop_rounds 2 ?_
 rw [rounds_succ]
 go_wp2_with (go_at_call 62; refine (CN1.out _ (SpanW.below HW.out BeL)).mono ?_; rintro e w1 ⟨rfl, hb1⟩; obtain ⟨hc1, hf1⟩ := bcell hb1; have hz1 := hb1.size; (try simp at hz1))
 rw [rounds_succ]
 go_wp2_with (go_at_call 63; refine (CA.out _).mono ?_; rintro e w' ⟨rfl, rfl⟩)
 refine (CC.out _ BeL).mono ?_
 rintro e w3 ⟨rfl, hb3⟩
 have hz3 := hb3.size
 (try simp at hz3)
 have HB3 : Below w.heap.size w w3 := BeL
 go_wp2_with (go_at_call 53; refine (CI.out _ (SpanW.below HW.out BeL)).mono ?_; rintro e w4 ⟨rfl, hb4⟩; obtain ⟨hc4, hf4⟩ := bcell hb4; have hz4 := hb4.size; (try simp at hz4))
 go_ret2
 exact LineDone.read rfl HU.out BeL
theorem utc_nil (n : Int) (x : RLabel) (w : World) (hT : TabAt w) (n0 : 0 ≤ n) (n1 : n ≤ 9999999) (hd : dateB x.year x.month x.day = true) (hn : numD x.year x.month x.day = n / 86400) (hh : x.h = n % 86400 / 3600) (hm : x.m = n % 86400 / 60 % 60) (hs : x.s = n % 86400 % 60) :
  Calls Tryz.prog 69 #[.slice none 0 0, .int .i64 n] w fun e w' => e = .returned (.tuple #[.agg #[.int .i64 x.year, .int .i64 x.month, .int .i64 x.day, .int .i64 x.h, .int .i64 x.m, .int .i64 x.s], .nilIface]) ∧ Below w.heap.size w w' := by
 have eb : ∀ d, beginL [] d = 86400 * d := fun d => by unfold beginL moreL; omega
 have h := leap_Utc none 0 0 [] n (n / 86400) x.year x.month x.day w hT ⟨rfl, Nat.le_refl _, by unfold maxLen; omega, (fun z hz => absurd hz (by simp)), (fun h => absurd h (by omega))⟩ ⟨by simp, rfl⟩ (by omega) (by omega) (by rw [eb]; omega) (by rw [eb]; omega) hd hn
 rw [eb] at h
 have e : n - 86400 * (n / 86400) = n % 86400 := by omega
 rw [e] at h
 have k : ¬ 86400 ≤ n % 86400 := by omega
 unfold labH labM labS at h
 rw [if_neg k, if_neg k, if_neg k, ← hh, ← hm, ← hs] at h
 exact h
set_option maxRecDepth 100000 in
set_option maxHeartbeats 8000000 in
theorem line_date (HS : SpanW w) (hs : s.size ≤ 1048576) (hc : Lib.countB s ⟨#[32]⟩ + 1 = 2) (hw : Lib.splitB ⟨#[32]⟩ 0 (Lib.countB s ⟨#[32]⟩) s = [x0, x1]) (hx1 : x1.size ≤ 1048576) (h : NetAt w a ssR rsR 100 t uv us K S) (h3 : a.n = 3) (hT : TabAt w) (hq : Eqs x0 7) (hn1 : num7B x1.data.toList = true) (x : RLabel) (hd : dateB x.year x.month x.day = true) (hn : numD x.year x.month x.day = atoV x1.data.toList / 86400) (hh : x.h = atoV x1.data.toList % 86400 / 3600) (hm : x.m = atoV x1.data.toList % 86400 / 60 % 60) (hsec : x.s = atoV x1.data.toList % 86400 % 60) :
  Calls Tryz.prog 37 #[.agg #[.pointer (some ⟨a.N, 0, none⟩)], .string s] w (LineDone w a uv K (labT x) 0 t us S) := by
 have CS := split_any s
 rw [hw, hc] at CS
 replace CS := Lib.hid CS
 have CW := Lib.hid (fun w => show Calls Tryz.prog 61 #[.string x0] w fun e w' => e = .returned (.tuple #[.int .i64 1, .bool true]) ∧ w = w' by have := run_wants x0 7 (by omega) hq w; exact this)
 have CA := Lib.hid (fun w => show Calls Tryz.prog 63 #[.string x0] w fun e w' => e = .returned (.tuple #[.int .i64 0, .bool false]) ∧ w = w' by have := run_acts x0 7 (by omega) hq w; exact this)
 have q6 : (x0.toList == [115, 104, 111, 119]) = false := hq.q6
 have q8 : (x0.toList == [111, 102, 102, 115, 101, 116]) = false := hq.q8
 have q9 : (x0.toList == [119, 105, 100, 101]) = false := hq.q9
 obtain ⟨n1, en1⟩ : ∃ n, atoV x1.data.toList = n := ⟨_, rfl⟩
 have CN1 := Lib.hid (fun w h => by have := run_number x1 w h hx1; rw [hn1, en1] at this; exact this)
 obtain ⟨b1, d1⟩ := num7_bd hn1
 rw [en1] at b1 d1
 rw [en1] at hn hh hm hsec
 have CU := Lib.hid (fun w' hT => utc_nil n1 x w' hT b1 d1 hd hn hh hm hsec)
 have hB : labB x = true := labB_iff.2 ⟨hd, by omega, by omega, by omega, by omega, by omega, by omega⟩
 have CP := Lib.hid (fun w' hT => leap_Print x w' hT hB)
 have HT := Lib.hid hT
 have HU := Lib.hid h
 clear h hT hq hn1 hd hn hh hm hsec hB en1 b1 d1
 have HW := Lib.hid HS
 have hs2 := hs
 clear HS hw hc
 go_enter Tryz.func37, Tryz.ntmps37
 go_wp2_with (first | (go_at_call 60; refine (CS.out _ (SpanW.below HW.out BeL) hs2).mono ?_; rintro e w' ⟨rfl, rfl⟩) | (go_at_call 61; refine (CW.out _).mono ?_; rintro e w' ⟨rfl, rfl⟩))
 refine wp_loop_rounds 2 ?_
 rw [rounds_succ]
 go_wp2_with (go_at_call 62; refine (CN1.out _ (SpanW.below HW.out BeL)).mono ?_; rintro e w1 ⟨rfl, hb1⟩; obtain ⟨hc1, hf1⟩ := bcell hb1; have hz1 := hb1.size; (try simp at hz1))
 rw [rounds_succ]
 go_wp2_with (go_at_call 63; refine (CA.out _).mono ?_; rintro e w' ⟨rfl, rfl⟩)
 refine (CU.out _ (HT.out.below BeL)).mono ?_
 rintro e w3 ⟨rfl, hb3⟩
 have hz3 := hb3.size
 (try simp at hz3)
 have HB3 : Below w.heap.size w w3 := BeL
 go_wp2_with (go_at_call 70; refine (CP.out _ (HT.out.below BeL)).mono ?_; rintro e w4 ⟨rfl, hb4⟩; obtain ⟨hc4, hf4⟩ := bcell hb4; have hz4 := hb4.size; (try simp at hz4))
 go_ret2
 exact LineDone.read rfl HU.out BeL
set_option maxRecDepth 100000 in
set_option maxHeartbeats 8000000 in
theorem line_offset (HS : SpanW w) (hs : s.size ≤ 1048576) (hc : Lib.countB s ⟨#[32]⟩ + 1 = 3) (hw : Lib.splitB ⟨#[32]⟩ 0 (Lib.countB s ⟨#[32]⟩) s = [x0, x1, x2]) (hx1 : x1.size ≤ 1048576) (hx2 : x2.size ≤ 1048576) (h : NetAt w a ssR rsR 100 t uv us K S) (h3 : a.n = 3) (hq : Eqs x0 8) (hn1 : num7B x1.data.toList = true) (hn2 : num7B x2.data.toList = true) (hR : ∀ x, OffS 3 (hereAt ssR rsR t) S (atoV x1.data.toList) (atoV x2.data.toList) x 0 → rightB x.lo x.hi = true) :
  Calls Tryz.prog 37 #[.agg #[.pointer (some ⟨a.N, 0, none⟩)], .string s] w (fun e w' => ∃ x c, OffS 3 (hereAt ssR rsR t) S (atoV x1.data.toList) (atoV x2.data.toList) x c ∧ LineDone w a uv K (if c = 0 then printS x.lo x.hi else []) c t us S e w') := by
 have CS := split_any s
 rw [hw, hc] at CS
 replace CS := Lib.hid CS
 have CW := Lib.hid (fun w => show Calls Tryz.prog 61 #[.string x0] w fun e w' => e = .returned (.tuple #[.int .i64 2, .bool true]) ∧ w = w' by have := run_wants x0 8 (by omega) hq w; exact this)
 have CA := Lib.hid (fun w => show Calls Tryz.prog 63 #[.string x0] w fun e w' => e = .returned (.tuple #[.int .i64 0, .bool false]) ∧ w = w' by have := run_acts x0 8 (by omega) hq w; exact this)
 have q6 : (x0.toList == [115, 104, 111, 119]) = false := hq.q6
 have q8 : (x0.toList == [111, 102, 102, 115, 101, 116]) = true := hq.q8
 have q9 : (x0.toList == [119, 105, 100, 101]) = false := hq.q9
 obtain ⟨n1, en1⟩ : ∃ n, atoV x1.data.toList = n := ⟨_, rfl⟩
 have CN1 := Lib.hid (fun w h => by have := run_number x1 w h hx1; rw [hn1, en1] at this; exact this)
 obtain ⟨b1, d1⟩ := num7_bd hn1
 rw [en1] at b1 d1
 obtain ⟨n2, en2⟩ : ∃ n, atoV x2.data.toList = n := ⟨_, rfl⟩
 have CN2 := Lib.hid (fun w h => by have := run_number x2 w h hx2; rw [hn2, en2] at this; exact this)
 obtain ⟨b2, d2⟩ := num7_bd hn2
 rw [en2] at b2 d2
 rw [en1, en2] at hR ⊢
 have CO := Lib.hid (fun w' (hb : Below w.heap.size w w') => by have := net_Offset a ssR rsR 100 t uv us K S n1 n2 w' (h.below hb); rw [h3] at this; exact this)
 have HU := Lib.hid h
 have HR := Lib.hid hR
 clear h hq hn1 hn2 hR en1 en2
 have HW := Lib.hid HS
 have hs2 := hs
 clear HS hw hc
 go_enter Tryz.func37, Tryz.ntmps37
 go_wp2_with (first | (go_at_call 60; refine (CS.out _ (SpanW.below HW.out BeL) hs2).mono ?_; rintro e w' ⟨rfl, rfl⟩) | (go_at_call 61; refine (CW.out _).mono ?_; rintro e w' ⟨rfl, rfl⟩))
 refine wp_loop_rounds 3 ?_
 rw [rounds_succ]
 go_wp2_with (go_at_call 62; refine (CN1.out _ (SpanW.below HW.out BeL)).mono ?_; rintro e w1 ⟨rfl, hb1⟩; obtain ⟨hc1, hf1⟩ := bcell hb1; have hz1 := hb1.size; (try simp at hz1))
 rw [rounds_succ]
 go_wp2_with fail
 refine (CN2.out _ (SpanW.below HW.out BeL)).mono ?_
 rintro e w2 ⟨rfl, hb2⟩
 have kb2 : Blk w2 (w.heap.size + 1 + 1) 142 #[.int .i64 n1, .int .i64 0] := BkD
 have y20 := kb2.cell 0
 have y21 := kb2.cell 1
 have z21 := kb2.fz 1
 simp at y20 y21
 have kw2 : Blk w2 (w.heap.size + 1) 9 #[.string x0, .string x1, .string x2] := BkD
 have kd2 : Blk w2 w.heap.size 46 #[.pointer (some ⟨a.N, 0, none⟩)] := BkD
 have y22 := kw2.cell 0
 have y23 := kd2.cell 0
 simp at y22 y23
 have l20 := kb2.lt
 have l21 := kw2.lt
 have l22 := kd2.lt
 have hz2 := hb2.size
 (try simp at hz2)
 have HB2 : Below w.heap.size w w2 := BeL
 go_wp2_with fail
 rw [rounds_succ]
 go_wp2_with (go_at_call 63; refine (CA.out _).mono ?_; rintro e w' ⟨rfl, rfl⟩)
 refine (CO.out _ BeL).mono ?_
 rintro e w3 ⟨x, c, rfl, hO, hb3⟩
 have HO := Lib.hid hO
 have hz3 := hb3.size
 (try simp at hz3)
 have HB3 : Below w.heap.size w w3 := BeL
 clear hb3 hO
 by_cases c0 : c = 0
 ·subst c0
  rw [errV_0]
  have hP := span_Print x.lo x.hi
  rw [HR.out x HO.out] at hP
  have CP := Lib.hid hP
  obtain ⟨L, eL⟩ : ∃ L, printS x.lo x.hi = L := ⟨_, rfl⟩
  rw [eL] at CP
  clear hP
  go_wp2_with (go_at_call 68; refine (CP.out _ (SpanW.below HW.out BeL)).mono ?_; rintro e w4 ⟨rfl, hb4⟩; obtain ⟨hc4, hf4⟩ := bcell hb4; have hz4 := hb4.size; (try simp at hz4))
  go_ret2
  exact ⟨x, 0, HO.out, by rw [if_pos rfl, eL]; exact LineDone.read rfl HU.out BeL⟩
 ·have ee := errV_ne c0
  rw [ee]
  go_wp2_with fail
  go_ret2
  exact ⟨x, c, HO.out, by rw [if_neg c0]; exact LineDone.read (by rw [ee]; rfl) HU.out BeL⟩
set_option maxRecDepth 100000 in
set_option maxHeartbeats 8000000 in
theorem line_wide (HS : SpanW w) (hs : s.size ≤ 1048576) (hc : Lib.countB s ⟨#[32]⟩ + 1 = 1) (hw : Lib.splitB ⟨#[32]⟩ 0 (Lib.countB s ⟨#[32]⟩) s = [x0]) (h : NetAt w a ssR rsR 100 t uv us K S) (h3 : a.n = 3) (hq : Eqs x0 9) (hR : ∀ v c, WideA 3 (hereAt ssR rsR t) S v c → -9223372036854775808 ≤ v ∧ v ≤ 9223372036854775807) :
  Calls Tryz.prog 37 #[.agg #[.pointer (some ⟨a.N, 0, none⟩)], .string s] w (fun e w' => ∃ v c, WideA 3 (hereAt ssR rsR t) S v c ∧ LineDone w a uv K (Lib.itoa v) c t us S e w') := by
 have CS := split_any s
 rw [hw, hc] at CS
 replace CS := Lib.hid CS
 have CW := Lib.hid (fun w => show Calls Tryz.prog 61 #[.string x0] w fun e w' => e = .returned (.tuple #[.int .i64 0, .bool true]) ∧ w = w' by have := run_wants x0 9 (by omega) hq w; exact this)
 have CA := Lib.hid (fun w => show Calls Tryz.prog 63 #[.string x0] w fun e w' => e = .returned (.tuple #[.int .i64 0, .bool false]) ∧ w = w' by have := run_acts x0 9 (by omega) hq w; exact this)
 have q6 : (x0.toList == [115, 104, 111, 119]) = false := hq.q6
 have q8 : (x0.toList == [111, 102, 102, 115, 101, 116]) = false := hq.q8
 have q9 : (x0.toList == [119, 105, 100, 101]) = true := hq.q9
 have CO := Lib.hid (fun w' (hb : Below w.heap.size w w') => by have := net_Wide a ssR rsR 100 t uv us K S w' (h.below hb); rw [h3] at this; exact this)
 have HU := Lib.hid h
 have HR := Lib.hid hR
 clear h hq hR
 have HW := Lib.hid HS
 have hs2 := hs
 clear HS hw hc
 go_enter Tryz.func37, Tryz.ntmps37
 go_wp2_with (first | (go_at_call 60; refine (CS.out _ (SpanW.below HW.out BeL) hs2).mono ?_; rintro e w' ⟨rfl, rfl⟩) | (go_at_call 61; refine (CW.out _).mono ?_; rintro e w' ⟨rfl, rfl⟩))
 refine wp_loop_rounds 1 ?_
 rw [rounds_succ]
 go_wp2_with (go_at_call 63; refine (CA.out _).mono ?_; rintro e w' ⟨rfl, rfl⟩)
 refine (CO.out _ BeL).mono ?_
 rintro e w3 ⟨v, c, rfl, hO, hb3⟩
 have HO := Lib.hid hO
 have hz3 := hb3.size
 (try simp at hz3)
 have HB3 : Below w.heap.size w w3 := BeL
 clear hb3 hO
 obtain ⟨v0, v1⟩ := HR.out v c HO.out
 obtain ⟨sv, esv, lsv, CI⟩ := itoa_let v v0 v1
 replace CI := Lib.hid CI
 clear v0 v1
 go_wp2_with (go_at_call 53; refine (CI.out _ (SpanW.below HW.out BeL)).mono ?_; rintro e w4 ⟨rfl, hb4⟩; obtain ⟨hc4, hf4⟩ := bcell hb4; have hz4 := hb4.size; (try simp at hz4))
 go_ret2
 exact ⟨v, c, HO.out, LineDone.read (by rw [esv]; rfl) HU.out BeL⟩
set_option maxRecDepth 100000 in
set_option maxHeartbeats 8000000 in
theorem line_none (HS : SpanW w) (hU : UnreadAt w) (hs : s.size ≤ 1048576) (m : Nat) (ws : List ByteArray) (hm : m ≤ 2000000) (hc : Lib.countB s ⟨#[32]⟩ + 1 = m) (hw : Lib.splitB ⟨#[32]⟩ 0 (Lib.countB s ⟨#[32]⟩) s = ws) (h0 : ws[0]? = some x0) (k : Nat) (hk : k < 10) (hq : Eqs x0 k) (hb : wantN k < 0 ∨ (0 ≤ wantN k ∧ (m : Int) ≠ wantN k + 1)) (g : Nat) :
  Calls Tryz.prog 37 #[.agg #[.pointer (some ⟨g, 0, none⟩)], .string s] w (LineBad w) := by
 have CS := split_any s
 rw [hw, hc] at CS
 replace CS := Lib.hid CS
 have CW := fun w => run_wants x0 k hk hq w
 have h1 : 1 ≤ m := by omega
 have hcell : ((ws.map Value.string).toArray)[0]? = some (.string x0) := by simp [h0]
 obtain ⟨cs, ecs⟩ : ∃ cs, (ws.map Value.string).toArray = cs := ⟨_, rfl⟩
 rw [ecs] at CS hcell
 have HW := Lib.hid HS
 have hs2 := hs
 have hgl := cell_lt hU
 have hun : w.cell? ⟨0, 0, none⟩ = some (.iface 88 (.int .i64 2)) := hU
 have k1 : (0 : Int) < (m : Int) := by omega
 rcases hb with hb | ⟨hb, hne⟩
 ·rw [if_pos hb, show decide (0 ≤ wantN k) = false by simp; omega] at CW
  replace CW := Lib.hid CW
  clear HS hw hc hq hk hb h0 hU ecs
  go_enter Tryz.func37, Tryz.ntmps37
  go_wp2_with (first | (go_at_call 60; refine (CS.out _ (SpanW.below HW.out BeL) hs2).mono ?_; rintro e w' ⟨rfl, rfl⟩) | (go_at_call 61; refine (CW.out _).mono ?_; rintro e w' ⟨rfl, rfl⟩))
  go_quiet (fail)
  (try go_wp2_with fail)
  go_ret2
  exact ⟨rfl, BeL⟩
 ·rw [if_neg (by omega), show decide (0 ≤ wantN k) = true by simp; omega] at CW
  obtain ⟨v, ev⟩ : ∃ v, wantN k = v := ⟨_, rfl⟩
  rw [ev] at CW hne hb
  have v2 : v ≤ 2 := by rw [← ev]; unfold wantN; (repeat' split) <;> omega
  replace CW := Lib.hid CW
  clear HS hw hc hq hk h0 hU ecs ev
  go_enter Tryz.func37, Tryz.ntmps37
  go_wp2_with (first | (go_at_call 60; refine (CS.out _ (SpanW.below HW.out BeL) hs2).mono ?_; rintro e w' ⟨rfl, rfl⟩) | (go_at_call 61; refine (CW.out _).mono ?_; rintro e w' ⟨rfl, rfl⟩))
  go_quiet (fail)
  (try go_wp2_with fail)
  go_ret2
  exact ⟨rfl, BeL⟩
set_option maxRecDepth 100000 in
set_option maxHeartbeats 8000000 in
theorem line_bad1 (HS : SpanW w) (hs : s.size ≤ 1048576) (hc : Lib.countB s ⟨#[32]⟩ + 1 = 2) (hw : Lib.splitB ⟨#[32]⟩ 0 (Lib.countB s ⟨#[32]⟩) s = [x0, x1]) (hx1 : x1.size ≤ 1048576) (hU : UnreadAt w) (k : Nat) (hq : Eqs x0 k) (hk : k = 1 ∨ k = 3 ∨ k = 4 ∨ k = 5 ∨ k = 6 ∨ k = 7) (hn1 : num7B x1.data.toList = false) :
  Calls Tryz.prog 37 #[.agg #[.pointer (some ⟨a.N, 0, none⟩)], .string s] w (LineBad w) := by
 have CS := split_any s
 rw [hw, hc] at CS
 replace CS := Lib.hid CS
 have CW := Lib.hid (fun w => show Calls Tryz.prog 61 #[.string x0] w fun e w' => e = .returned (.tuple #[.int .i64 1, .bool true]) ∧ w = w' by have := run_wants x0 k (by omega) hq w; rcases hk with rfl | rfl | rfl | rfl | rfl | rfl <;> exact this)
 obtain ⟨n1, en1⟩ : ∃ n, atoV x1.data.toList = n := ⟨_, rfl⟩
 have CN1 := Lib.hid (fun w h => by have := run_number x1 w h hx1; rw [hn1, en1] at this; exact this)
 have HUn := Lib.hid hU
 have hgl := cell_lt hU
 have hun : w.cell? ⟨0, 0, none⟩ = some (.iface 88 (.int .i64 2)) := hU
 clear hU
 clear hq hk hn1 en1
 have HW := Lib.hid HS
 have hs2 := hs
 clear HS hw hc
 go_enter Tryz.func37, Tryz.ntmps37
 go_wp2_with (first | (go_at_call 60; refine (CS.out _ (SpanW.below HW.out BeL) hs2).mono ?_; rintro e w' ⟨rfl, rfl⟩) | (go_at_call 61; refine (CW.out _).mono ?_; rintro e w' ⟨rfl, rfl⟩))
 refine wp_loop_rounds 1 ?_
 rw [rounds_succ]
 go_wp2_with fail
 refine (CN1.out _ (SpanW.below HW.out BeL)).mono ?_
 rintro e w1 ⟨rfl, hb1⟩
 have hz1 := hb1.size
 (try simp at hz1)
 have yu1 : w1.cell? ⟨0, 0, none⟩ = some (.iface 88 (.int .i64 2)) := HUn.out.below (show Below w.heap.size w w1 from BeL)
 have lu1 : 0 < w1.heap.size := by omega
 go_wp2_with fail
 (try go_quiet (fail))
 (try go_wp2_with fail)
 go_ret2
 exact ⟨rfl, BeL⟩
set_option maxRecDepth 100000 in
set_option maxHeartbeats 8000000 in
theorem line_bad2 (HS : SpanW w) (hs : s.size ≤ 1048576) (hc : Lib.countB s ⟨#[32]⟩ + 1 = 3) (hw : Lib.splitB ⟨#[32]⟩ 0 (Lib.countB s ⟨#[32]⟩) s = [x0, x1, x2]) (hx1 : x1.size ≤ 1048576) (hx2 : x2.size ≤ 1048576) (hU : UnreadAt w) (k : Nat) (hq : Eqs x0 k) (hk : k = 2 ∨ k = 8) (hn1 : num7B x1.data.toList = false) :
  Calls Tryz.prog 37 #[.agg #[.pointer (some ⟨a.N, 0, none⟩)], .string s] w (LineBad w) := by
 have CS := split_any s
 rw [hw, hc] at CS
 replace CS := Lib.hid CS
 have CW := Lib.hid (fun w => show Calls Tryz.prog 61 #[.string x0] w fun e w' => e = .returned (.tuple #[.int .i64 2, .bool true]) ∧ w = w' by have := run_wants x0 k (by omega) hq w; rcases hk with rfl | rfl <;> exact this)
 obtain ⟨n1, en1⟩ : ∃ n, atoV x1.data.toList = n := ⟨_, rfl⟩
 have CN1 := Lib.hid (fun w h => by have := run_number x1 w h hx1; rw [hn1, en1] at this; exact this)
 have HUn := Lib.hid hU
 have hgl := cell_lt hU
 have hun : w.cell? ⟨0, 0, none⟩ = some (.iface 88 (.int .i64 2)) := hU
 clear hU
 clear hq hk hn1 en1
 have HW := Lib.hid HS
 have hs2 := hs
 clear HS hw hc
 go_enter Tryz.func37, Tryz.ntmps37
 go_wp2_with (first | (go_at_call 60; refine (CS.out _ (SpanW.below HW.out BeL) hs2).mono ?_; rintro e w' ⟨rfl, rfl⟩) | (go_at_call 61; refine (CW.out _).mono ?_; rintro e w' ⟨rfl, rfl⟩))
 refine wp_loop_rounds 1 ?_
 rw [rounds_succ]
 go_wp2_with fail
 refine (CN1.out _ (SpanW.below HW.out BeL)).mono ?_
 rintro e w1 ⟨rfl, hb1⟩
 have hz1 := hb1.size
 (try simp at hz1)
 have yu1 : w1.cell? ⟨0, 0, none⟩ = some (.iface 88 (.int .i64 2)) := HUn.out.below (show Below w.heap.size w w1 from BeL)
 have lu1 : 0 < w1.heap.size := by omega
 go_wp2_with fail
 (try go_quiet (fail))
 (try go_wp2_with fail)
 go_ret2
 exact ⟨rfl, BeL⟩
set_option maxRecDepth 100000 in
set_option maxHeartbeats 8000000 in
theorem line_bad3 (HS : SpanW w) (hs : s.size ≤ 1048576) (hc : Lib.countB s ⟨#[32]⟩ + 1 = 3) (hw : Lib.splitB ⟨#[32]⟩ 0 (Lib.countB s ⟨#[32]⟩) s = [x0, x1, x2]) (hx1 : x1.size ≤ 1048576) (hx2 : x2.size ≤ 1048576) (hU : UnreadAt w) (k : Nat) (hq : Eqs x0 k) (hk : k = 2 ∨ k = 8) (hn1 : num7B x1.data.toList = true) (hn2 : num7B x2.data.toList = false) :
  Calls Tryz.prog 37 #[.agg #[.pointer (some ⟨a.N, 0, none⟩)], .string s] w (LineBad w) := by
 have CS := split_any s
 rw [hw, hc] at CS
 replace CS := Lib.hid CS
 have CW := Lib.hid (fun w => show Calls Tryz.prog 61 #[.string x0] w fun e w' => e = .returned (.tuple #[.int .i64 2, .bool true]) ∧ w = w' by have := run_wants x0 k (by omega) hq w; rcases hk with rfl | rfl <;> exact this)
 obtain ⟨n1, en1⟩ : ∃ n, atoV x1.data.toList = n := ⟨_, rfl⟩
 have CN1 := Lib.hid (fun w h => by have := run_number x1 w h hx1; rw [hn1, en1] at this; exact this)
 obtain ⟨b1, d1⟩ := num7_bd hn1
 rw [en1] at b1 d1
 obtain ⟨n2, en2⟩ : ∃ n, atoV x2.data.toList = n := ⟨_, rfl⟩
 have CN2 := Lib.hid (fun w h => by have := run_number x2 w h hx2; rw [hn2, en2] at this; exact this)
 have HUn := Lib.hid hU
 have hgl := cell_lt hU
 have hun : w.cell? ⟨0, 0, none⟩ = some (.iface 88 (.int .i64 2)) := hU
 clear hU
 clear hq hk hn1 hn2 en1 en2
 have HW := Lib.hid HS
 have hs2 := hs
 clear HS hw hc
 go_enter Tryz.func37, Tryz.ntmps37
 go_wp2_with (first | (go_at_call 60; refine (CS.out _ (SpanW.below HW.out BeL) hs2).mono ?_; rintro e w' ⟨rfl, rfl⟩) | (go_at_call 61; refine (CW.out _).mono ?_; rintro e w' ⟨rfl, rfl⟩))
 refine wp_loop_rounds 2 ?_
 rw [rounds_succ]
 go_wp2_with (go_at_call 62; refine (CN1.out _ (SpanW.below HW.out BeL)).mono ?_; rintro e w1 ⟨rfl, hb1⟩; obtain ⟨hc1, hf1⟩ := bcell hb1; have hz1 := hb1.size; (try simp at hz1))
 rw [rounds_succ]
 go_wp2_with fail
 refine (CN2.out _ (SpanW.below HW.out BeL)).mono ?_
 rintro e w2 ⟨rfl, hb2⟩
 have hz2 := hb2.size
 (try simp at hz2)
 have yu2 : w2.cell? ⟨0, 0, none⟩ = some (.iface 88 (.int .i64 2)) := HUn.out.below (show Below w.heap.size w w2 from BeL)
 have lu2 : 0 < w2.heap.size := by omega
 go_wp2_with fail
 (try go_quiet (fail))
 (try go_wp2_with fail)
 go_ret2
 exact ⟨rfl, BeL⟩
end
end Go.Proofs.YtldlandcjegikaaGreatDoor
