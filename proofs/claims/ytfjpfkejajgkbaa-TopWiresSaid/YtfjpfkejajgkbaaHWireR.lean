/- Letters and spans as bytes: the two texts' readers, walked. -/
import Derived.Test.YtfjpfkejajgkbaaHG1
import Derived.Test.YtfjpfkejajgkbaaHWireL
namespace Go.Proofs.Ytfjpfkejajgkbaa
open Go.RowKit
set_option linter.unusedVariables false
set_option linter.unusedSimpArgs false
theorem Blk.two {w : World} {g : Nat} {t : TypeId} {a b : Value} (h : Blk w g t #[a, b]) : w.cell? ⟨g, 0, none⟩ = some a ∧ w.cell? ⟨g, 1, none⟩ = some b ∧ (∀ o, w.frozen? ⟨g, o, none⟩ = false) ∧ g < w.heap.size := ⟨(h.cell 0).trans rfl, (h.cell 1).trans rfl, fun o => h.fz o, h.lt⟩
theorem strSub (s : ByteArray) (i j : Nat) (hj : j ≤ s.size) : (s.extract i j).data.toList = (s.data.toList.drop i).take (j - i) := by simp
theorem strSub_take (s : ByteArray) (i j : Nat) (hj : j ≤ s.size) (h : i + 6 ≤ j) : (s.extract i j).data.toList.take 6 = (s.data.toList.drop i).take 6 := by
  rw [strSub s i j hj, List.take_take]; congr 1; omega
theorem strSub_size (s : ByteArray) (i j : Nat) (hj : j ≤ s.size) : (s.extract i j).size = j - i := by simp [ByteArray.size_extract]; omega
theorem getB6_bd (l : List UInt8) : 0 ≤ getB (l.take 6) ∧ getB (l.take 6) < 281474976710656 := getB_take_bd l 6 (by omega)
set_option maxRecDepth 100000 in
set_option maxHeartbeats 4000000 in
theorem wire_ReadSpan (s : ByteArray) (w : World) (hs : s.size ≤ maxLen) :
    Calls Try.prog 10 #[.string s] w fun e w' => e = .returned (.tuple #[.agg #[.int .i64 (readS s.data.toList).lo, .int .i64 (readS s.data.toList).hi], errV (readS s.data.toList).c]) ∧ Below w.heap.size w w' := by
  unfold maxLen at hs
  by_cases c : s.size = 12
  · have h1 : 12 ≤ s.size := by omega
    have h2 : s.size ≤ 12 := by omega
    have h3 : ((s.size : Int) != 12) = false := by simp; omega
    have h4 : (6 : Int) ≤ (s.size : Int) := by omega
    obtain ⟨A, eA⟩ : ∃ A, getB (s.data.toList.take 6) = A := ⟨_, rfl⟩
    obtain ⟨B, eB⟩ : ∃ B, getB ((s.data.toList.drop 6).take 6) = B := ⟨_, rfl⟩
    have hA := getB6_bd s.data.toList
    have hB := getB6_bd (s.data.toList.drop 6)
    rw [eA] at hA
    rw [eB] at hB
    obtain ⟨a0, a1⟩ := hA
    obtain ⟨b0, b1⟩ := hB
    have g1 : ∀ W : World, Calls Try.prog 30 #[.string s] W fun e w' => e = .returned (.int .i64 A) ∧ Below W.heap.size W w' := fun W => by
      have := wire_get s W (by omega) (by unfold maxLen; omega)
      rwa [eA] at this
    have g2 : ∀ W : World, Calls Try.prog 30 #[.string (s.extract 6 s.size)] W fun e w' => e = .returned (.int .i64 B) ∧ Below W.heap.size W w' := fun W => by
      have := wire_get (s.extract 6 s.size) W (by rw [strSub_size _ _ _ (Nat.le_refl _)]; omega) (by rw [strSub_size _ _ _ (Nat.le_refl _)]; unfold maxLen; omega)
      rwa [strSub_take _ _ _ (Nat.le_refl _) (by omega), eB] at this
    have G1 := Lib.hid g1
    have G2 := Lib.hid g2
    have HR : Hid (readS s.data.toList = if rightB (A - 1000000000000) (B - 1000000000000) = true then ⟨A - 1000000000000, B - 1000000000000, 0⟩ else ⟨0, 0, 2⟩) := Lib.hid (by
      unfold readS readSOk parS
      rw [eA, eB]
      simp [c])
    have e1 := IntWalk.i64_in (A - 1000000000000) (by omega)
    have e2 := IntWalk.i64_in (B - 1000000000000) (by omega)
    clear g1 g2 c eA eB
    go_enter Try.func10, Try.ntmps10
    go_upto_region 3 with (fail)
    go_cut [4] (fun s4 wx => ∃ g, s4 = .pointer (some ⟨g, 0, none⟩) ∧ Blk wx g 34 #[.int .i64 (A - 1000000000000), .int .i64 (B - 1000000000000)] ∧ Blk wx w.heap.size 34 #[.int .i64 0, .int .i64 0] ∧ w.heap.size < g ∧ Below w.heap.size w wx)
    case first =>
      go_region_held3 (fun _ => True) (exact trivial)
        (first | (go_at_call 30; (with_reducible refine (G2.out _).mono ?_); rintro e w2 ⟨rfl, hb2⟩; obtain ⟨hc2, hf2⟩ := bcell hb2; have hz2 := hb2.size; (try simp at hz2); (try have q2_0_0_0 : w.heap.size < w2.heap.size := by omega); (try have q2_0_0_2 : w.heap.size < w2.heap.size + 1 + 1 := by omega); (try have q2_0_0_3 : w.heap.size < w2.heap.size + 1 + 1 + 1 := by omega); (try have q2_0_1_0 : w.heap.size + 1 < w2.heap.size := by omega); (try have q2_0_1_2 : w.heap.size + 1 < w2.heap.size + 1 + 1 := by omega); (try have q2_0_1_3 : w.heap.size + 1 < w2.heap.size + 1 + 1 + 1 := by omega); (try have q2_0_2_0 : w.heap.size + 1 + 1 < w2.heap.size := by omega); (try have q2_0_2_2 : w.heap.size + 1 + 1 < w2.heap.size + 1 + 1 := by omega); (try have q2_0_2_3 : w.heap.size + 1 + 1 < w2.heap.size + 1 + 1 + 1 := by omega); (try have q2_0_3_0 : w.heap.size + 1 + 1 + 1 < w2.heap.size := by omega); (try have q2_0_3_2 : w.heap.size + 1 + 1 + 1 < w2.heap.size + 1 + 1 := by omega); (try have q2_0_3_3 : w.heap.size + 1 + 1 + 1 < w2.heap.size + 1 + 1 + 1 := by omega); (try have q2_1_0_0 : w1.heap.size < w2.heap.size := by omega); (try have q2_1_0_2 : w1.heap.size < w2.heap.size + 1 + 1 := by omega); (try have q2_1_1_0 : w1.heap.size + 1 < w2.heap.size := by omega); (try have q2_1_1_2 : w1.heap.size + 1 < w2.heap.size + 1 + 1 := by omega)) | (go_at_call 30; (with_reducible refine (G1.out _).mono ?_); rintro e w1 ⟨rfl, hb1⟩; obtain ⟨hc1, hf1⟩ := bcell hb1; have hz1 := hb1.size; (try simp at hz1); (try have q1_0_0_0 : w.heap.size < w1.heap.size := by omega); (try have q1_0_0_2 : w.heap.size < w1.heap.size + 1 + 1 := by omega); (try have q1_0_0_3 : w.heap.size < w1.heap.size + 1 + 1 + 1 := by omega); (try have q1_0_1_0 : w.heap.size + 1 < w1.heap.size := by omega); (try have q1_0_1_2 : w.heap.size + 1 < w1.heap.size + 1 + 1 := by omega); (try have q1_0_1_3 : w.heap.size + 1 < w1.heap.size + 1 + 1 + 1 := by omega); (try have q1_0_2_0 : w.heap.size + 1 + 1 < w1.heap.size := by omega); (try have q1_0_2_2 : w.heap.size + 1 + 1 < w1.heap.size + 1 + 1 := by omega); (try have q1_0_2_3 : w.heap.size + 1 + 1 < w1.heap.size + 1 + 1 + 1 := by omega); (try have q1_0_3_0 : w.heap.size + 1 + 1 + 1 < w1.heap.size := by omega); (try have q1_0_3_2 : w.heap.size + 1 + 1 + 1 < w1.heap.size + 1 + 1 := by omega); (try have q1_0_3_3 : w.heap.size + 1 + 1 + 1 < w1.heap.size + 1 + 1 + 1 := by omega)))
      all_goals
        go_wp2_with fail
        go_meet
      all_goals
        case rel => exact ⟨_, rfl, (by apply Blk.conv; (focus (repeat (first | (with_reducible assumption) | ((with_reducible apply Blk.newAt); first | (with_reducible rfl) | (simp; done) | omega) | (with_reducible apply Blk.drew) | (with_reducible apply Blk.drewN) | (with_reducible apply Blk.set) | ((with_reducible apply Blk.far); rotate_left 1; focus (first | omega | (simp; done) | (simp; omega))) | (with_reducible apply Blk.alloc) | ((with_reducible apply blk_bel (by with_reducible assumption)); focus (first | omega | (simp; done) | (simp; omega)))))); exact rfl), (by apply Blk.conv; (focus (repeat (first | (with_reducible assumption) | ((with_reducible apply Blk.newAt); first | (with_reducible rfl) | (simp; done) | omega) | (with_reducible apply Blk.drew) | (with_reducible apply Blk.drewN) | (with_reducible apply Blk.set) | ((with_reducible apply Blk.far); rotate_left 1; focus (first | omega | (simp; done) | (simp; omega))) | (with_reducible apply Blk.alloc) | ((with_reducible apply blk_bel (by with_reducible assumption)); focus (first | omega | (simp; done) | (simp; omega)))))); exact rfl), by first | omega | (simp; done) | (simp; omega), (by repeat (first | with_reducible exact Below.refl _ _ | (with_reducible refine Below.alloc ?_ (by first | omega | (simp; done) | (simp; omega)) _) | (with_reducible refine Below.setCell ?_ (by first | omega | (simp; done) | (simp; omega)) _) | (with_reducible refine Below.drew ?_) | (with_reducible refine below_drewN ?_ _) | (with_reducible assumption) | (with_reducible refine bel_step (by with_reducible assumption) ?_ (by first | omega | (simp; done) | (simp; omega)))))⟩
    case rest =>
      obtain ⟨g, rfl, hK, hR, hg, hB⟩ := hcut
      obtain ⟨k0, k1, kf, kl⟩ := hK.two
      obtain ⟨r0, r1, rf, rl⟩ := hR.two
      have HK := Lib.hid hK
      have HB := Lib.hid hB
      clear hK hR hB e1 e2
      by_cases d : rightB (A - 1000000000000) (B - 1000000000000) = true
      · have HV := Lib.hid (show readS s.data.toList = ⟨A - 1000000000000, B - 1000000000000, 0⟩ by rw [HR.out, if_pos d])
        go_wp2_with fail
        (try (go_at_call 31; refine (Right_any _ _ _).mono ?_; rintro e w3 ⟨rfl, hb3⟩; obtain ⟨hc3, hf3⟩ := bcell hb3; have hz3 := hb3.size; (try simp at hz3); (try have q3_0_0_0 : w.heap.size < w3.heap.size := by omega); (try have q3_0_0_2 : w.heap.size < w3.heap.size + 1 + 1 := by omega); (try have q3_0_0_3 : w.heap.size < w3.heap.size + 1 + 1 + 1 := by omega); (try have q3_0_1_0 : w.heap.size + 1 < w3.heap.size := by omega); (try have q3_0_1_2 : w.heap.size + 1 < w3.heap.size + 1 + 1 := by omega); (try have q3_0_1_3 : w.heap.size + 1 < w3.heap.size + 1 + 1 + 1 := by omega); (try have q3_0_2_0 : w.heap.size + 1 + 1 < w3.heap.size := by omega); (try have q3_0_2_2 : w.heap.size + 1 + 1 < w3.heap.size + 1 + 1 := by omega); (try have q3_0_2_3 : w.heap.size + 1 + 1 < w3.heap.size + 1 + 1 + 1 := by omega); (try have q3_0_3_0 : w.heap.size + 1 + 1 + 1 < w3.heap.size := by omega); (try have q3_0_3_2 : w.heap.size + 1 + 1 + 1 < w3.heap.size + 1 + 1 := by omega); (try have q3_0_3_3 : w.heap.size + 1 + 1 + 1 < w3.heap.size + 1 + 1 + 1 := by omega); (try have q3_1_0_0 : w1.heap.size < w3.heap.size := by omega); (try have q3_1_0_2 : w1.heap.size < w3.heap.size + 1 + 1 := by omega); (try have q3_1_1_0 : w1.heap.size + 1 < w3.heap.size := by omega); (try have q3_1_1_2 : w1.heap.size + 1 < w3.heap.size + 1 + 1 := by omega); (try have q3_2_0_0 : w2.heap.size < w3.heap.size := by omega); (try have q3_2_0_2 : w2.heap.size < w3.heap.size + 1 + 1 := by omega); (try have q3_2_1_0 : w2.heap.size + 1 < w3.heap.size := by omega); (try have q3_2_1_2 : w2.heap.size + 1 < w3.heap.size + 1 + 1 := by omega); (try go_wp2_with fail)))
        rw [HV.out]
        have HB0 := HB.out
        refine bodyPost_ret (v := (.tuple #[.agg #[.int .i64 (A - 1000000000000), .int .i64 (B - 1000000000000)], errV 0])) (by simp [results, Try.results10, go_sem, errV, okC, *]) rfl ⟨rfl, ?_⟩; exact (by repeat (first | with_reducible exact Below.refl _ _ | (with_reducible refine Below.alloc ?_ (by first | omega | (simp; done) | (simp; omega)) _) | (with_reducible refine Below.setCell ?_ (by first | omega | (simp; done) | (simp; omega)) _) | (with_reducible refine Below.drew ?_) | (with_reducible refine below_drewN ?_ _) | (with_reducible assumption) | (with_reducible refine bel_step (by with_reducible assumption) ?_ (by first | omega | (simp; done) | (simp; omega)))))
      · have HV := Lib.hid (show readS s.data.toList = ⟨0, 0, 2⟩ by rw [HR.out, if_neg d])
        go_wp2_with fail
        (try (go_at_call 31; refine (Right_any _ _ _).mono ?_; rintro e w3 ⟨rfl, hb3⟩; obtain ⟨hc3, hf3⟩ := bcell hb3; have hz3 := hb3.size; (try simp at hz3); (try have q3_0_0_0 : w.heap.size < w3.heap.size := by omega); (try have q3_0_0_2 : w.heap.size < w3.heap.size + 1 + 1 := by omega); (try have q3_0_0_3 : w.heap.size < w3.heap.size + 1 + 1 + 1 := by omega); (try have q3_0_1_0 : w.heap.size + 1 < w3.heap.size := by omega); (try have q3_0_1_2 : w.heap.size + 1 < w3.heap.size + 1 + 1 := by omega); (try have q3_0_1_3 : w.heap.size + 1 < w3.heap.size + 1 + 1 + 1 := by omega); (try have q3_0_2_0 : w.heap.size + 1 + 1 < w3.heap.size := by omega); (try have q3_0_2_2 : w.heap.size + 1 + 1 < w3.heap.size + 1 + 1 := by omega); (try have q3_0_2_3 : w.heap.size + 1 + 1 < w3.heap.size + 1 + 1 + 1 := by omega); (try have q3_0_3_0 : w.heap.size + 1 + 1 + 1 < w3.heap.size := by omega); (try have q3_0_3_2 : w.heap.size + 1 + 1 + 1 < w3.heap.size + 1 + 1 := by omega); (try have q3_0_3_3 : w.heap.size + 1 + 1 + 1 < w3.heap.size + 1 + 1 + 1 := by omega); (try have q3_1_0_0 : w1.heap.size < w3.heap.size := by omega); (try have q3_1_0_2 : w1.heap.size < w3.heap.size + 1 + 1 := by omega); (try have q3_1_1_0 : w1.heap.size + 1 < w3.heap.size := by omega); (try have q3_1_1_2 : w1.heap.size + 1 < w3.heap.size + 1 + 1 := by omega); (try have q3_2_0_0 : w2.heap.size < w3.heap.size := by omega); (try have q3_2_0_2 : w2.heap.size < w3.heap.size + 1 + 1 := by omega); (try have q3_2_1_0 : w2.heap.size + 1 < w3.heap.size := by omega); (try have q3_2_1_2 : w2.heap.size + 1 < w3.heap.size + 1 + 1 := by omega); (try go_wp2_with fail)))
        rw [HV.out]
        have HB0 := HB.out
        refine bodyPost_ret (v := (.tuple #[.agg #[.int .i64 0, .int .i64 0], errV 2])) (by simp [results, Try.results10, go_sem, errV, okC, *]) rfl ⟨rfl, ?_⟩; exact (by repeat (first | with_reducible exact Below.refl _ _ | (with_reducible refine Below.alloc ?_ (by first | omega | (simp; done) | (simp; omega)) _) | (with_reducible refine Below.setCell ?_ (by first | omega | (simp; done) | (simp; omega)) _) | (with_reducible refine Below.drew ?_) | (with_reducible refine below_drewN ?_ _) | (with_reducible assumption) | (with_reducible refine bel_step (by with_reducible assumption) ?_ (by first | omega | (simp; done) | (simp; omega)))))
  · have HV := Lib.hid (show readS s.data.toList = ⟨0, 0, 2⟩ by unfold readS readSOk; simp [c])
    have h3 : ((s.size : Int) != 12) = true := by simp; omega
    rw [HV.out]
    clear c
    go_enter Try.func10, Try.ntmps10
    go_wp2_with fail
    refine bodyPost_ret (v := (.tuple #[.agg #[.int .i64 0, .int .i64 0], errV 2])) (by simp [results, Try.results10, go_sem, errV, okC, *]) rfl ⟨rfl, ?_⟩; exact (by repeat (first | with_reducible exact Below.refl _ _ | (with_reducible refine Below.alloc ?_ (by first | omega | (simp; done) | (simp; omega)) _) | (with_reducible refine Below.setCell ?_ (by first | omega | (simp; done) | (simp; omega)) _) | (with_reducible refine Below.drew ?_) | (with_reducible refine below_drewN ?_ _) | (with_reducible assumption) | (with_reducible refine bel_step (by with_reducible assumption) ?_ (by first | omega | (simp; done) | (simp; omega)))))
theorem byte_get (s : ByteArray) (k : Nat) (h : k < s.size) : ((s[k]'h).toNat : Int) = ((s.data.toList.getD k 0).toNat : Int) := by
  rw [List.getD_eq_getElem?_getD, List.getElem?_eq_getElem (by simpa using h)]; simp; rfl
theorem byte_bd (l : List UInt8) (k : Nat) : 0 ≤ ((l.getD k 0).toNat : Int) ∧ ((l.getD k 0).toNat : Int) < 256 := by
  have := (l.getD k 0).toNat_lt; omega
theorem byte_one (l : List UInt8) (k : Nat) : (((l.getD k 0).toNat : Int) == 1) = (l.getD k 0 == 1) := by
  rw [Bool.eq_iff_iff]
  simp only [beq_iff_eq]
  constructor
  · intro h; exact UInt8.toNat_inj.1 (show (l.getD k 0).toNat = 1 by omega)
  · intro h; rw [h]; rfl
theorem idx_str (s : ByteArray) (k : Nat) (h : k < s.size) (i : Int) (hi : i = (k : Int)) (w : World) : (Instr.index 9 (.string s) (.int .i64 i)).run Try.prog w = .ok (.int .u8 ((s.data.toList.getD k 0).toNat : Int)) w := by
  subst hi
  rw [run_index_string w 9 s .i64 k Try.underlying9, dif_pos ⟨by omega, by omega⟩]
  have := byte_get s k h
  simp only [Int.toNat_natCast]
  rw [this]
def parR (s : List UInt8) : RLetter := { parB s with answer := decide (s.length = 22) }
def readOkR (s : List UInt8) : Bool := (decide (s.length = 10) || decide (s.length = 22)) && (decide (letC (parR s) = 0) && decide (letB (parR s) = s))
theorem letB_2 (l : RLetter) : (letB l).getD 2 0 = if l.answer = true then 1 else 0 := by
  unfold letB bodyB
  split <;> rfl
theorem readOk_parR {s : List UInt8} (h : readOk s = true) : parR s = parB s ∧ readOkR s = true := by
  have h0 := h
  unfold readOk at h
  simp only [Bool.and_eq_true, Bool.or_eq_true, decide_eq_true_eq] at h
  obtain ⟨h1, h2, h3⟩ := h
  have h4 := letB_len (parB s)
  rw [h3] at h4
  have e : parR s = parB s := by
    unfold parR
    have : (parB s).answer = decide (s.length = 22) := by
      cases ha : (parB s).answer
      · rw [ha] at h4; simp at h4; simp; omega
      · rw [ha] at h4; simp at h4; simp; omega
    rw [← this]
  refine ⟨e, ?_⟩
  unfold readOkR
  rw [e]
  exact h0
theorem readOkR_eq (s : List UInt8) : readOkR s = readOk s := by
  rw [Bool.eq_iff_iff]
  constructor
  · intro h
    have h0 := h
    unfold readOkR at h
    simp only [Bool.and_eq_true, Bool.or_eq_true, decide_eq_true_eq] at h
    obtain ⟨h1, h2, h3⟩ := h
    have h4 := letB_2 (parR s)
    rw [h3] at h4
    have e : parR s = parB s := by
      unfold parR
      have : (parB s).answer = decide (s.length = 22) := by
        show (s.getD 2 0 == 1) = _
        rw [h4]
        by_cases c : s.length = 22
        · simp [parR, c]
        · simp [parR, c]
      rw [← this]
    unfold readOk
    rw [← e]
    exact h0
  · exact fun h => (readOk_parR h).2
end Go.Proofs.Ytfjpfkejajgkbaa
