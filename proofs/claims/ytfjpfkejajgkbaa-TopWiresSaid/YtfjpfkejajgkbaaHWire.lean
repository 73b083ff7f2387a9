/- Package wire, and the reference's bytes, walked. -/
import Derived.Test.YtfjpfkejajgkbaaHWireP
namespace Go.Proofs.Ytfjpfkejajgkbaa
open Go.RowKit
set_option linter.unusedVariables false
set_option linter.unusedSimpArgs false
theorem Try.infoU8 : (Try.prog.info? 5).map (fun i => (i.zero, i.size, i.bytes)) = some (some (.int .u8 0), 1, 1) := by kernel_rfl
/-- what a call on a row of bytes of its own leaves: the row with more bytes; nothing below block B has turned. -/
def Rowed (B : Nat) (w : World) (l : List UInt8) (e : Ending) (w' : World) : Prop :=
  ∃ v, e = .returned v ∧ w'.ownsRow B 5 1 v l.length (byteVs l) ∧ Below B w w'
theorem cell_one_byte (w : World) (x : Value) (T : TypeId) : ∀ j u, [x][j]? = some u → (w.alloc (.cells #[x] T)).cell? ((⟨w.heap.size, 0, none⟩ : Addr).add j) = some u := by
  intro j u hj
  match j, hj with
  | 0, hj => simp at hj; subst hj; simp [Addr.add]
theorem one_cell_byte (n : Int) : ∀ u ∈ [Value.int .u8 n], u.oneCell' = true := by intro u hu; simp at hu; subst hu; rfl
theorem put_step {w : World} {B : Nat} {T : TypeId} {v : Value} {l : List UInt8} {n x : Int} (k : Nat) (hk : k < 6) (hx : x = n / 256 ^ (5 - k) % 256)
    (h : w.ownsRow B T 1 v ((l ++ (sixB n).take k).length + 1) (byteVs (l ++ (sixB n).take k) ++ [.int .u8 x])) :
    w.ownsRow B T 1 v (l ++ (sixB n).take (k + 1)).length (byteVs (l ++ (sixB n).take (k + 1))) := by
  have e : (sixB n).take (k + 1) = (sixB n).take k ++ [byteOf n (5 - k)] := by
    rw [List.take_succ_eq_append_getElem (by rw [sixB_len]; exact hk)]
    have hc : k = 0 ∨ k = 1 ∨ k = 2 ∨ k = 3 ∨ k = 4 ∨ k = 5 := by omega
    rcases hc with rfl | rfl | rfl | rfl | rfl | rfl <;> rfl
  rw [e, ← List.append_assoc, byteVs_app]
  have e2 : byteVs [byteOf n (5 - k)] = [.int .u8 x] := by
    simp only [byteVs, List.map_cons, List.map_nil, byteOf_toNat]
    rw [hx]
  rw [e2, show (l ++ (sixB n).take k ++ [byteOf n (5 - k)]).length = (l ++ (sixB n).take k).length + 1 by simp [Nat.add_assoc]]
  exact h
set_option maxRecDepth 100000 in
set_option maxHeartbeats 4000000 in
theorem wire_put (v : Value) (l : List UInt8) (n : Int) (B : Nat) (w : World) (h0 : 0 ≤ n) (h1 : n ≤ 2000000000000) (hl : l.length ≤ 1000) (hB : B ≤ w.heap.size)
    (hown : w.ownsRow B 5 1 v l.length (byteVs l)) :
    Calls Try.prog 29 #[v, .int .i64 n] w (Rowed B w (l ++ sixB n)) := by
  obtain ⟨i0, hi, hz0, hz1, hz2⟩ := info_parts Try.infoU8
  go_enter Try.func29, Try.ntmps29
  go_wp2
  go_loopw [0, 5] (fun v i wr => ∃ k : Nat, k ≤ 6 ∧ i = .int .i64 (5 - k) ∧ wr.ownsRow B 5 1 v (l ++ (sixB n).take k).length (byteVs (l ++ (sixB n).take k)) ∧ Below B w wr)
    (fun _ i _ => (intOf i + 1).toNat)
  case atStart => exact ⟨0, by omega, rfl, by simpa using hown, Below.refl _ _⟩
  case round =>
    obtain ⟨k, hk, rfl, ho, hb⟩ := hrel
    have hc : k = 0 ∨ k = 1 ∨ k = 2 ∨ k = 3 ∨ k = 4 ∨ k = 5 ∨ k = 6 := by omega
    rcases hc with rfl | rfl | rfl | rfl | rfl | rfl | rfl
    rotate_left 6
    · go_wp2
      go_ret
      exact ⟨_, rfl, ho, hb⟩
    all_goals
      go_wp2_with (at_builtin; refine wpList_append_own _ rfl _ _ 84 rfl B 5 i0 (.int .u8 0) 1 1 Try.underlying84 hi hz0 hz1 hz2 rfl (by decide) _ _ _ rfl (ho.alloc _) ⟨wr.heap.size, 0, none⟩ 1 1 _ rfl rfl (cell_one_byte _ _ _) (one_cell_byte _) (by unfold maxLen; simp; omega) (by simp; omega) (by have := hb.size; simp; omega) ?_; intro v' w1 ho1 hg1 _)
      have hb2 := (hb.alloc (by have := hb.size; omega) _).grown hg1 (by have := hb.size; simp; omega) (fun k hk => (ho.lt k hk).1)
      go_roundw
      case rel => exact ⟨_, by omega, by go_num, put_step _ (by omega) (by simp only [Int.reducePow, Nat.reduceSub]; try omega) ho1, hb2⟩
      case measure => simp [intOf]
theorem bytesRow_get (s : ByteArray) (cap j : Nat) (h : j < s.size) : (bytesRow s cap)[j]? = some (.int .u8 ((s.data.toList.getD j 0).toNat : Int)) := by
  rw [bytesRow_at s cap j h]
  have : s.data.toList.getD j 0 = s.data[j] := by
    rw [List.getD_eq_getElem?_getD, List.getElem?_eq_getElem (by simpa using h)]
    simp
  rw [this]
theorem i64_or_nat (a b : Nat) (ha : a < 9223372036854775808) (hb : b < 9223372036854775808) : bits .or .i64 (a : Int) (b : Int) = ((a ||| b : Nat) : Int) := by
  have hx : a ||| b < 2 ^ 63 := Nat.or_lt_two_pow (by omega) (by omega)
  show IntKind.i64.wrap ((BitVec.ofInt 64 (a : Int) ||| BitVec.ofInt 64 (b : Int)).toNat : Int) = _
  rw [BitVec.toNat_or, ofInt_u64 a (by omega), ofInt_u64 b (by omega)]
  exact IntWalk.i64_in _ (by omega)
theorem i64_or_join (n c : Int) (h0 : 0 ≤ n) (h1 : n < 36028797018963968) (h2 : 0 ≤ c) (h3 : c < 256) : bits .or .i64 (n * 256) c = n * 256 + c := by
  obtain ⟨A, rfl⟩ := Int.eq_ofNat_of_zero_le h0
  obtain ⟨B, rfl⟩ := Int.eq_ofNat_of_zero_le h2
  have h := i64_or_nat (A * 256) B (by omega) (by omega)
  rw [nat_join 8 (A * 256) B (by omega) (by omega)] at h
  simpa using h
theorem getB_take_snoc {l : List UInt8} {k : Nat} (h : k < l.length) : getB (l.take (k + 1)) = getB (l.take k) * 256 + (l.getD k 0).toNat := by
  rw [List.take_succ_eq_append_getElem h, getB_snoc, List.getD_eq_getElem?_getD, List.getElem?_eq_getElem h]; rfl
theorem getB_take_bd (l : List UInt8) (k : Nat) (hk : k ≤ 6) : 0 ≤ getB (l.take k) ∧ getB (l.take k) < 281474976710656 := by
  have h := getB_bd (l.take k)
  refine ⟨h.1, Int.lt_of_lt_of_le h.2 ?_⟩
  have h3 : (l.take k).length ≤ 6 := by rw [List.length_take]; omega
  generalize (l.take k).length = m at h3
  have hc : m = 0 ∨ m = 1 ∨ m = 2 ∨ m = 3 ∨ m = 4 ∨ m = 5 ∨ m = 6 := by omega
  rcases hc with rfl | rfl | rfl | rfl | rfl | rfl | rfl <;> decide
set_option maxRecDepth 100000 in
set_option maxHeartbeats 4000000 in
theorem wire_get (s : ByteArray) (w : World) (h : 6 ≤ s.size) (hs : s.size ≤ maxLen) :
    Calls Try.prog 30 #[.string s] w fun e w' => e = .returned (.int .i64 (getB (s.data.toList.take 6))) ∧ Below w.heap.size w w' := by
  unfold maxLen at hs
  have hcv := fun (s : ByteArray) (w : World) => run_bytes_of_string (P := Try.prog) w 9 84 5 s Try.underlying9 Try.underlying84 Try.underlying5
  have hz : (s.extract 0 6).size = 6 := by simp [ByteArray.size_extract]; omega
  have ht : (s.extract 0 6).data.toList = s.data.toList.take 6 := by simp
  have HL := Lib.hid (show (s.data.toList.take 6).length = 6 by rw [← ht]; simpa using hz)
  have gc := World.cell?_alloc_mark w
  obtain ⟨l, hl⟩ : ∃ l, s.data.toList.take 6 = l := ⟨_, rfl⟩
  rw [hl] at ht HL ⊢
  have HG : Hid (∀ C j, j < 6 → (bytesRow (s.extract 0 6) C)[j]? = some (.int .u8 ((l.getD j 0).toNat : Int))) := Lib.hid (fun C j hj => by rw [bytesRow_get (s.extract 0 6) C j (by omega), ht])
  clear hl ht hz
  go_enter Try.func30, Try.ntmps30
  go_wp2
  go_loop [3, 10] (fun n i => ∃ k : Nat, k ≤ 6 ∧ i = .int .i64 k ∧ n = .int .i64 (getB (l.take k))) (fun _ i => 6 - (intOf i).toNat)
  case atStart => exact ⟨0, by omega, rfl, rfl⟩
  case round =>
    obtain ⟨k, hk, rfl, rfl⟩ := hrel
    obtain ⟨b0, b1⟩ := getB_take_bd l k hk
    by_cases hlt : k < 6
    · have hg := fun C => HG.out C k hlt
      have HS := Lib.hid (getB_take_snoc (l := l) (k := k) (by rw [HL.out]; exact hlt))
      have hc0 : ((l.getD k 0).toNat : Int) < 256 := by have := (l.getD k 0).toNat_lt; omega
      obtain ⟨c, ec⟩ : ∃ c : Int, ((l.getD k 0).toNat : Int) = c := ⟨_, rfl⟩
      obtain ⟨N, eN⟩ : ∃ N, getB (l.take k) = N := ⟨_, rfl⟩
      have hc1 : 0 ≤ c := by omega
      rw [ec] at hg hc0 HS
      rw [eN] at b0 b1 HS ⊢
      have hbits := i64_or_join N c b0 (by omega) hc1 hc0
      clear ec eN
      go_wp2
      go_round
      case rel => exact ⟨k + 1, by omega, by go_num, by rw [HS.out]⟩
      case measure => simp [intOf]; omega
    · have : k = 6 := by omega
      subst this
      go_wp2
      go_ret
      exact ⟨ret_int (by rw [List.take_of_length_le (by rw [HL.out]; omega)]), (by repeat (first | with_reducible exact Below.refl _ _ | (with_reducible refine Below.alloc ?_ (by first | omega | (simp; done) | (simp; omega)) _) | (with_reducible refine Below.setCell ?_ (by first | omega | (simp; done) | (simp; omega)) _) | (with_reducible refine Below.drew ?_) | (with_reducible refine below_drewN ?_ _) | (with_reducible assumption) | (with_reducible refine bel_step (by with_reducible assumption) ?_ (by first | omega | (simp; done) | (simp; omega)))))⟩
theorem nodeW_t {n : Int} (h0 : 0 ≤ n) (h1 : n < 6) : nodeW n = true := nodeW_iff.2 ⟨h0, by omega⟩
theorem letC_bad {l : RLetter} (h : l.src < 0 ∨ 6 ≤ l.src ∨ l.dst < 0 ∨ 6 ≤ l.dst ∨ l.t < 0 ∨ 1000000000000 < l.t ∨ l.t1 < 0 ∨ 1000000000000 < l.t1 ∨ l.t2 < 0 ∨ 1000000000000 < l.t2) : errV (letC l) = .iface 81 (.int .i64 1) := by
  have : letC l = 1 := by
    unfold letC
    rw [if_neg]
    intro g
    simp only [nodeW_iff, timeW_iff] at g
    omega
  rw [this]; rfl
def goodL (l : RLetter) : Prop := 0 ≤ l.src ∧ l.src < 6 ∧ 0 ≤ l.dst ∧ l.dst < 6 ∧ 0 ≤ l.t ∧ l.t ≤ 1000000000000 ∧ 0 ≤ l.t1 ∧ l.t1 ≤ 1000000000000 ∧ 0 ≤ l.t2 ∧ l.t2 ≤ 1000000000000
theorem letC_good {l : RLetter} (h : goodL l) : letC l = if l.src = l.dst ∨ (l.answer = false ∧ (l.t1 ≠ 0 ∨ l.t2 ≠ 0)) then 3 else 0 := by
  unfold goodL at h
  unfold letC
  rw [if_pos]
  simp only [nodeW_iff, timeW_iff]
  omega
set_option maxRecDepth 100000 in
set_option maxHeartbeats 4000000 in
theorem wire_Check (l : RLetter) (w : World) :
    Calls Try.prog 33 #[.agg #[.int .i64 l.src, .int .i64 l.dst, .bool l.answer, .int .i64 l.t1, .int .i64 l.t2, .int .i64 l.t]] w fun e w' => e = .returned (errV (letC l)) ∧ Below w.heap.size w w' := by
  go_enter Try.func33, Try.ntmps33
  go_wp2
  repeat' (first | (rw [rounds_succ]; go_wp2) | (refine wp_loop_rounds 4 ?_; rw [rounds_succ]; go_wp2))
  all_goals
    go_ret
  all_goals first
    | exact ⟨ret_v (letC_bad (by omega)).symm, (by repeat (first | with_reducible exact Below.refl _ _ | (with_reducible refine Below.alloc ?_ (by first | omega | (simp; done) | (simp; omega)) _) | (with_reducible refine Below.setCell ?_ (by first | omega | (simp; done) | (simp; omega)) _) | (with_reducible refine Below.drew ?_) | (with_reducible refine below_drewN ?_ _) | (with_reducible assumption) | (with_reducible refine bel_step (by with_reducible assumption) ?_ (by first | omega | (simp; done) | (simp; omega)))))⟩
    | (have hg : goodL l := by (unfold goodL; omega)
       have hl := letC_good hg
       refine ⟨ret_v ?_, (by repeat (first | with_reducible exact Below.refl _ _ | (with_reducible refine Below.alloc ?_ (by first | omega | (simp; done) | (simp; omega)) _) | (with_reducible refine Below.setCell ?_ (by first | omega | (simp; done) | (simp; omega)) _) | (with_reducible refine Below.drew ?_) | (with_reducible refine below_drewN ?_ _) | (with_reducible assumption) | (with_reducible refine bel_step (by with_reducible assumption) ?_ (by first | omega | (simp; done) | (simp; omega)))))⟩
       rw [hl]
       first | (rw [if_pos (by simp_all)]; rfl) | (rw [if_neg (by simp_all)]; rfl))
theorem own_shape {w : World} {B : Nat} {T : TypeId} {v : Value} {l : List UInt8} (h : w.ownsRow B T 1 v l.length (byteVs l)) (h0 : 0 < l.length) :
    ∃ g cap, v = .slice (some ⟨g, 0, none⟩) l.length cap ∧ B ≤ g ∧ g < w.heap.size ∧ l.length ≤ cap ∧ cap ≤ maxLen ∧ ∀ k, k < l.length → w.cell? ⟨g, k, none⟩ = some (.int .u8 ((l.getD k 0).toNat : Int)) := by
  have hc := fun {g : Nat} (hg : v.ownBlock = some g) => h.cells hg
  rcases h.2 with ⟨rfl, hn⟩ | ⟨g, cap, cur, rfl, hb, hg, hn, hm, hs, ht⟩
  · omega
  · refine ⟨g, cap, rfl, hb, (Array.getElem?_eq_some_iff.1 hg).1, hn, hm, fun k hk => ?_⟩
    have hx := hc (g := g) rfl k (.int .u8 ((l.getD k 0).toNat : Int)) (by
      simp only [byteVs, List.getElem?_map, List.getElem?_eq_getElem hk, Option.map_some, List.getD_eq_getElem?_getD, Option.getD_some])
    rw [show (⟨g, 0, none⟩ : Addr).add k = ⟨g, k, none⟩ by unfold Addr.add; split <;> simp_all] at hx
    exact hx
theorem bytes_string {w : World} {g cap : Nat} {l : List UInt8} (h : ∀ k, k < l.length → w.cell? ⟨g, k, none⟩ = some (.int .u8 ((l.getD k 0).toNat : Int))) :
    (convert 84 9 (.slice (some ⟨g, 0, none⟩) l.length cap)).run Try.prog w = .ok (.string ⟨l.toArray⟩) w :=
  run_convert_bytes_back (P := Try.prog) w 84 9 5 ⟨g, 0, none⟩ cap l Try.underlying84 Try.underlying5 Try.underlying9 (fun j hj => by
    have := h j hj
    rw [List.getD_eq_getElem?_getD, List.getElem?_eq_getElem hj] at this
    rw [show (⟨g, 0, none⟩ : Addr).add j = ⟨g, j, none⟩ by unfold Addr.add; split <;> simp_all]
    exact this)
theorem own3 (w : World) (a b : Int) (c : UInt8) (h0 : 0 ≤ a) (h1 : a < 256) (h2 : 0 ≤ b) (h3 : b < 256) :
    (w.alloc (.cells #[.int .u8 a, .int .u8 b, .int .u8 (c.toNat : Int)] 5)).ownsRow w.heap.size 5 1 (.slice (some ⟨w.heap.size, 0, none⟩) 3 3) [byteOf a 0, byteOf b 0, c].length (byteVs [byteOf a 0, byteOf b 0, c]) := by
  have e1 : ((byteOf a 0).toNat : Int) = a := by rw [byteOf_toNat]; simp only [Int.pow_zero]; omega
  have e2 : ((byteOf b 0).toNat : Int) = b := by rw [byteOf_toNat]; simp only [Int.pow_zero]; omega
  refine ⟨by simp [byteVs], .inr ⟨w.heap.size, 3, _, rfl, Nat.le_refl _, heap_alloc_new w _, by simp, by unfold maxLen; omega, by simp, ?_⟩⟩
  simp [byteVs, e1, e2]
end Go.Proofs.Ytfjpfkejajgkbaa
