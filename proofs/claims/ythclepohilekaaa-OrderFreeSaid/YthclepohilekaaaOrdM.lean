/- order.Many, walked. -/
import Derived.Test.YthclepohilekaaaOrdL
import Derived.Test.YthclepohilekaaaOrdD
import Derived.Test.YthclepohilekaaaFCells
import Derived.Test.YthclepohilekaaaBits
import Derived.Test.YthclepohilekaaaArr
import Derived.StillTailTactics
namespace Go.Proofs.Ythclepohilekaaa
open Go.RowKit
set_option linter.unusedVariables false
set_option linter.unusedSimpArgs false
theorem evsOf {w : World} {A : Option Addr} {n c : Nat} {zs : List REvent} (h : IsRecs w REvent.cells REvent.ok 3 A n c zs) (h0 : 0 < n) : ∃ b off, A = some ⟨b, off, none⟩ ∧ b < w.heap.size ∧ ∀ wr, Below w.heap.size w wr → ∀ i, i < n → wr.cell? ⟨b, off + i * 3, none⟩ = some (.int .i64 (zs.getD i default).id) ∧ wr.cell? ⟨b, off + i * 3 + 1, none⟩ = some (.int .i64 (zs.getD i default).lo) ∧ wr.cell? ⟨b, off + i * 3 + 2, none⟩ = some (.int .i64 (zs.getD i default).hi) := by
  obtain ⟨l1, l2, l3, l4, l5⟩ := h
  obtain ⟨b, off, e, hb, hc⟩ := l5 h0
  refine ⟨b, off, e, hb, fun wr hB i hi => ?_⟩
  have hz : zs[i]? = some (zs.getD i default) := by rw [List.getD_eq_getElem?_getD, List.getElem?_eq_getElem (by omega : i < zs.length)]; rfl
  exact ⟨(hB.cell (p := ⟨b, off + i * 3, none⟩) hb).trans (hc i _ hz 0 _ rfl), (hB.cell (p := ⟨b, off + i * 3 + 1, none⟩) hb).trans (hc i _ hz 1 _ rfl), (hB.cell (p := ⟨b, off + i * 3 + 2, none⟩) hb).trans (hc i _ hz 2 _ rfl)⟩
theorem infoU : (Try.prog.info? 38).map (fun i => (i.zero, i.size, i.bytes)) = some (some (.int .u64 0), 1, 8) := by kernel_rfl
/-- the needs, when i rows and of row i the first k are over. -/
def needV (zs : List REvent) (n i k t : Nat) : Value := .int .u64 ((if t < i then needN zs t n else if t = i then needN zs i k else 0 : Nat) : Int)
theorem needV_at (zs : List REvent) (n i k : Nat) : needV zs n i k i = .int .u64 ((needN zs i k : Nat) : Int) := by unfold needV; rw [if_neg (by omega), if_pos rfl]
theorem needV_same {zs : List REvent} {n i k : Nat} (h : ¬ ahB zs k i = true) (t : Nat) : needV zs n i k t = needV zs n i (k + 1) t := by
  have : needN zs i (k + 1) = needN zs i k := by show (if _ then _ else _) = _; rw [if_neg h]
  unfold needV; rw [this]
theorem needV_or {zs : List REvent} {n i k : Nat} (h : ahB zs k i = true) (t : Nat) : (if t = i then Value.int .u64 ((needN zs i k ||| 2 ^ k : Nat) : Int) else needV zs n i k t) = needV zs n i (k + 1) t := by
  have : needN zs i (k + 1) = needN zs i k ||| 2 ^ k := by show (if _ then _ else _) = _; rw [if_pos h]
  unfold needV; rw [this]
  by_cases e : t = i
  · subst e; rw [if_pos rfl, if_neg (by omega), if_pos rfl]
  · rw [if_neg e]; by_cases c : t < i
    · rw [if_pos c, if_pos c]
    · rw [if_neg c, if_neg c, if_neg e, if_neg e]
theorem needV_next (zs : List REvent) (n i t : Nat) : needV zs n i n t = needV zs n (i + 1) 0 t := by
  unfold needV
  by_cases c : t < i
  · rw [if_pos c, if_pos (by omega)]
  · rw [if_neg c]
    by_cases e : t = i
    · subst e; rw [if_pos rfl, if_pos (by omega)]
    · rw [if_neg e, if_neg (by omega)]
      by_cases g : t = i + 1
      · rw [if_pos g]; rfl
      · rw [if_neg g]
theorem needV_start (zs : List REvent) (n t : Nat) : Value.int .u64 0 = needV zs n 0 0 t := by
  unfold needV
  rw [if_neg (by omega)]
  by_cases e : t = 0
  · rw [if_pos e]; rfl
  · rw [if_neg e]; rfl
theorem or_pow {a k : Nat} (ha : a < 18446744073709551616) (hk : k < 64) : bits .or .u64 (a : Int) (IntKind.u64.wrap ((2 : Int) ^ k)) = ((a ||| 2 ^ k : Nat) : Int) := by
  rw [wrap_pow hk, bits_or_u64_nat a (2 ^ k) ha (pow_lt64 hk)]
theorem sumN_part {f : Nat → Nat} {B : Nat} : ∀ {m k : Nat}, k ≤ m → sumN f m ≤ B → sumN f k ≤ B
  | 0, k, h, hB => by obtain rfl : k = 0 := by omega
                      exact hB
  | m + 1, k, h, hB => by
    by_cases e : k = m + 1
    · subst e; exact hB
    · exact sumN_part (m := m) (by omega) (by have : sumN f m + f m ≤ B := hB; omega)
/-- the ways, when all sets below S are over, and of S the first j. -/
def wayV (zs : List REvent) (S j T : Nat) : Int := ((if T < S then wN zs T else if T = S then sumN (vT zs S) j else 0 : Nat) : Int)
theorem wayV_lt (zs : List REvent) (S j T : Nat) (h : T < S) : wayV zs S j T = (wN zs T : Nat) := by unfold wayV; rw [if_pos h]
theorem wayV_at (zs : List REvent) (S j : Nat) : wayV zs S j S = (sumN (vT zs S) j : Nat) := by unfold wayV; rw [if_neg (by omega), if_pos rfl]
theorem wayV_start (zs : List REvent) (T : Nat) : (if T = 0 then Value.int .i64 1 else .int .i64 0) = .int .i64 (wayV zs 1 0 T) := by
  unfold wayV
  by_cases e : T = 0
  · subst e; rw [if_pos rfl, if_pos (by omega), wN_0]; rfl
  · rw [if_neg e, if_neg (by omega)]
    by_cases c : T = 1
    · rw [if_pos c]; rfl
    · rw [if_neg c]; rfl
theorem wayV_same {zs : List REvent} {S j : Nat} (h : vT zs S j = 0) (T : Nat) : Value.int .i64 (wayV zs S j T) = .int .i64 (wayV zs S (j + 1) T) := by
  have : sumN (vT zs S) (j + 1) = sumN (vT zs S) j := by show sumN _ j + vT zs S j = _; rw [h]; rfl
  unfold wayV; rw [this]
theorem wayV_set (zs : List REvent) (S j T : Nat) : (if T = S then Value.int .i64 ((sumN (vT zs S) (j + 1) : Nat) : Int) else .int .i64 (wayV zs S j T)) = .int .i64 (wayV zs S (j + 1) T) := by
  by_cases e : T = S
  · subst e; rw [if_pos rfl, wayV_at]
  · rw [if_neg e]
    unfold wayV
    rw [if_neg e, if_neg e]
theorem wayV_next {zs : List REvent} (hr : ∀ z ∈ zs, evR z = true) {n S : Nat} (hn : zs.length = n) (h0 : S ≠ 0) (T : Nat) : Value.int .i64 (wayV zs S n T) = .int .i64 (wayV zs (S + 1) 0 T) := by
  unfold wayV
  subst hn
  by_cases c : T < S
  · rw [if_pos c, if_pos (by omega)]
  · rw [if_neg c]
    by_cases e : T = S
    · subst e; rw [if_pos rfl, if_pos (by omega), vT_sum hr h0]
    · rw [if_neg e, if_neg (by omega)]
      split <;> rfl
theorem vT_on {zs : List REvent} {S i : Nat} (h1 : S.testBit i = true) (h2 : rdy zs S i = true) : vT zs S i = if lastB zs (S - 2 ^ i) i = true then wN zs (S - 2 ^ i) else 0 := by unfold vT; rw [if_pos ⟨h1, h2⟩]
theorem vT_le {zs : List REvent} (hr : ∀ z ∈ zs, evR z = true) {n S j : Nat} (hn : zs.length = n) (h12 : n ≤ 12) (h0 : S ≠ 0) (hj : j ≤ n) : sumN (vT zs S) j ≤ 8916100448256 := by
  subst hn
  exact sumN_part hj (by rw [vT_sum hr h0]; exact wN_bound h12 S)
theorem andNot_0 {zs : List REvent} {n S j : Nat} (hn : zs.length = n) (h12 : n ≤ 12) (hS : S < 18446744073709551616) : (bits .andNot .u64 ((needN zs j n : Nat) : Int) (S : Int) == 0) = rdy zs S j := by
  have hp1 : 2 ^ n ≤ 2 ^ 12 := Nat.pow_le_pow_right (by omega) h12
  have h4 : (2 : Nat) ^ 12 = 4096 := by decide
  have hl := needN_lt zs j n
  have hD : needN zs j n < 18446744073709551616 := by omega
  rw [andNot_u64 _ S hD hS, Bool.eq_iff_iff, rdy_iff, beq_iff_eq]
  constructor
  · intro h k hk ha
    have h0 : (BitVec.ofNat 64 (needN zs j n) &&& ~~~ BitVec.ofNat 64 S).toNat = 0 := by
      have h' : (((BitVec.ofNat 64 (needN zs j n) &&& ~~~ BitVec.ofNat 64 S).toNat : Nat) : Int) = ((0 : Nat) : Int) := h
      exact Int.ofNat.inj h'
    have hb := andNot_bit (needN zs j n) S k hD hS
    rw [h0, needN_bit, ha, show decide (k < n) = true from decide_eq_true (by omega)] at hb
    simp at hb
    exact hb
  · intro h
    have h0 : (BitVec.ofNat 64 (needN zs j n) &&& ~~~ BitVec.ofNat 64 S).toNat = 0 := by
      refine Nat.eq_of_testBit_eq fun k => ?_
      rw [andNot_bit (needN zs j n) S k hD hS, needN_bit, Nat.zero_testBit]
      by_cases c : k < n
      · cases e : ahB zs k j
        · simp
        · rw [h k (by omega) e]; simp
      · simp [c]
    rw [h0]; rfl
/-- the needs are all there, and nothing below is touched. -/
def NeedRet (zs : List REvent) (n b : Nat) (w w' : World) : Prop := Blk w' b 38 (FCells (fun t => .int .u64 ((needN zs t n : Nat) : Int)) n) ∧ Below w.heap.size w w'
set_option maxRecDepth 100000 in
set_option maxHeartbeats 4000000 in
theorem order_Many_ok (A : Option Addr) (n c : Nat) (zs : List REvent) (w : World) (h : IsRecs w REvent.cells REvent.ok 3 A n c zs) (e0 : evC zs = 0) :
    Calls Try.prog 4 #[.slice A n c] w fun e w' => e = .returned (.tuple #[.int .i64 (wN zs (2 ^ n - 1) : Nat), .nilIface]) ∧ Below w.heap.size w w' := by
  obtain ⟨p1, p2⟩ := evC_0 e0
  have hl := h.1
  rw [hl] at p1
  have CK := Lib.hid (by have CK := order_Check A n c zs w h; rw [e0, errV_0] at CK; exact CK)
  have l2 := h.2.1
  have l3 := h.2.2.1
  unfold maxLen at l3
  have H := Lib.hid h
  have HL := Lib.hid hl
  have HR := Lib.hid p2
  have mk1 := run_make_row' (P := Try.prog) 36 38 (.int .u64 0) 8 Try.underlying36 infoU rfl .i64 .i64 n (by omega) (by omega)
  rw [made_f] at mk1
  clear h e0 p2 hl
  go_enter Try.func4, Try.ntmps4
  go_wp2_with fail
  refine CK.out.mono ?_
  rintro e w1 ⟨rfl, hb1⟩
  have hz1 := hb1.size
  have HB1 := Lib.hid hb1
  have H1 := Lib.hid (H.out.below hb1)
  clear hb1 CK
  go_wp2_with fail
  obtain ⟨wa, hwa⟩ : ∃ wa, wa = w1.alloc (.cells (FCells (fun _ => .int .u64 0) n) 38) := ⟨_, rfl⟩
  have HNa := Lib.hid (show Blk wa w1.heap.size 38 (FCells (needV zs n 0 0) n) by rw [hwa]; exact (Blk.new w1 _ _).fcongr fun t _ => needV_start zs n t)
  have HBa := Lib.hid (show Below w.heap.size w wa by have := HB1.out; rw [hwa]; exact (by repeat (first | with_reducible exact Below.refl _ _ | (with_reducible refine Below.alloc ?_ (by first | omega | (simp; done) | (simp; omega)) _) | (with_reducible refine Below.setCell ?_ (by first | omega | (simp; done) | (simp; omega)) _) | (with_reducible refine Below.drew ?_) | (with_reducible refine below_drewN ?_ _) | (with_reducible assumption) | (with_reducible refine bel_step (by with_reducible assumption) ?_ (by first | omega | (simp; done) | (simp; omega))))))
  rw [← hwa]
  clear hwa mk1
  obtain ⟨b, hb⟩ : ∃ b, w1.heap.size = b := ⟨_, rfl⟩
  rw [hb] at HNa ⊢
  have hb0 : w.heap.size ≤ b := by omega
  clear hb hz1 HB1
  have hEV := Lib.hid (fun (hp : 0 < n) => evsOf H.out hp)
  go_loopw [21] (fun iv wr => ∃ i : Nat, iv = .int .i64 i ∧ i ≤ n ∧ Blk wr b 38 (FCells (needV zs n i 0) n) ∧ Below w.heap.size w wr) (fun iv _ => n - (intOf iv).toNat)
  case atStart => exact ⟨0, rfl, by omega, HNa.out, HBa.out⟩
  case round =>
    obtain ⟨i, rfl, hi, hN, hB⟩ := hrel
    have HN := Lib.hid hN
    have HB := Lib.hid hB
    obtain ⟨wo, rfl⟩ : ∃ wo : World, wo = wr := ⟨_, rfl⟩
    clear hN hB
    by_cases d1 : i < n
    · go_wp2_with fail
      go_loopw [26] (fun kv wr => ∃ k : Nat, kv = .int .i64 k ∧ k ≤ n ∧ Blk wr b 38 (FCells (needV zs n i k) n) ∧ Below w.heap.size w wr) (fun kv _ => n - (intOf kv).toNat)
      case atStart => exact ⟨0, rfl, by omega, HN.out, HB.out⟩
      case round =>
        obtain ⟨k, rfl, hk, hN, hB⟩ := hrel
        by_cases d2 : k < n
        · obtain ⟨ab, off, rfl, hab, hc⟩ := hEV.out (by omega)
          obtain ⟨zk, hzk⟩ : ∃ z, zs.getD k default = z := ⟨_, rfl⟩
          obtain ⟨zi, hzi⟩ : ∃ z, zs.getD i default = z := ⟨_, rfl⟩
          have HAh := Lib.hid (show ahB zs k i = decide (zk.hi < zi.lo) by unfold ahB; rw [hzk, hzi])
          have CA := Lib.hid (fun W' => order_ahead zk.id zk.lo zk.hi zi.id zi.lo zi.hi W')
          have HC2 := Lib.hid (fun w' (hB : Below w.heap.size w w') => show w'.cell? ⟨ab, off + k * 3, none⟩ = some (.int .i64 zk.id) ∧ w'.cell? ⟨ab, off + k * 3 + 1, none⟩ = some (.int .i64 zk.lo) ∧ w'.cell? ⟨ab, off + k * 3 + 2, none⟩ = some (.int .i64 zk.hi) ∧ w'.cell? ⟨ab, off + i * 3, none⟩ = some (.int .i64 zi.id) ∧ w'.cell? ⟨ab, off + i * 3 + 1, none⟩ = some (.int .i64 zi.lo) ∧ w'.cell? ⟨ab, off + i * 3 + 2, none⟩ = some (.int .i64 zi.hi) from by
            obtain ⟨a0, a1, a2⟩ := hc w' hB k d2
            obtain ⟨b0, b1, b2⟩ := hc w' hB i d1
            rw [hzk] at a0 a1 a2
            rw [hzi] at b0 b1 b2
            exact ⟨a0, a1, a2, b0, b1, b2⟩)
          obtain ⟨y0, y1, y2, z0, z1, z2⟩ := HC2.out wr hB
          have HN := Lib.hid hN
          have HB := Lib.hid hB
          have hzw := hB.size
          have glt := hN.lt
          have q0 : (0 : Int) ≤ (k : Int) := by omega
          have q1 : (k : Int) < (n : Int) := by omega
          have q2 : (0 : Int) ≤ (i : Int) := by omega
          have q3 : (i : Int) < (n : Int) := by omega
          clear hN hB hc hzk hzi
          go_wp2_with fail
          go_region_held3 (fun w' => w'.cell? ⟨ab, off + k * 3, none⟩ = some (.int .i64 zk.id) ∧ w'.cell? ⟨ab, off + k * 3 + 1, none⟩ = some (.int .i64 zk.lo) ∧ w'.cell? ⟨ab, off + k * 3 + 2, none⟩ = some (.int .i64 zk.hi) ∧ w'.cell? ⟨ab, off + i * 3, none⟩ = some (.int .i64 zi.id) ∧ w'.cell? ⟨ab, off + i * 3 + 1, none⟩ = some (.int .i64 zi.lo) ∧ w'.cell? ⟨ab, off + i * 3 + 2, none⟩ = some (.int .i64 zi.hi)) (first | go_keep | ((repeat' apply And.intro) <;> assumption)) (first | ((go_at_call 7; refine (CA.out _).mono ?_; rintro e w3 ⟨rfl, hb3⟩; have hB3 : Below wr.heap.size wr w3 := (by repeat (first | with_reducible exact Below.refl _ _ | (with_reducible refine Below.alloc ?_ (by first | omega | (simp; done) | (simp; omega)) _) | (with_reducible refine Below.setCell ?_ (by first | omega | (simp; done) | (simp; omega)) _) | (with_reducible refine Below.drew ?_) | (with_reducible refine below_drewN ?_ _) | (with_reducible assumption) | (with_reducible refine bel_step (by with_reducible assumption) ?_ (by first | omega | (simp; done) | (simp; omega))))); have hBw : Below w.heap.size w w3 := HB.out.trans (hB3.mono (by omega)); obtain ⟨a0, a1, a2, b0, b1, b2⟩ := HC2.out w3 hBw)))
          all_goals
            have HN3 := Lib.hid (HN.out.below hB3 glt)
            have HB3 := Lib.hid hBw
            have hz3 := hBw.size
            have g3 : b < w3.heap.size := by have := hB3.size; omega
            clear hB3 hBw y0 y1 y2 z0 z1 z2 a0 a1 a2 b0 b1 b2 HN HB HC2 CA glt hzw
            by_cases ca : zk.hi < zi.lo
            · have ba : decide (zk.hi < zi.lo) = true := decide_eq_true ca
              have HA := Lib.hid (show ahB zs k i = true by rw [HAh.out, ba])
              have x0 := HN3.out.fat d1
              rw [needV_at] at x0
              have hnl := needN_lt zs i k
              have hp1 : 2 ^ k ≤ 2 ^ 12 := Nat.pow_le_pow_right (by omega) (by omega)
              have hor := or_pow (a := needN zs i k) (k := k) (by have : (2 : Nat) ^ 12 = 4096 := by decide
                                                                  omega) (by omega)
              obtain ⟨D, hD⟩ : ∃ D, needN zs i k = D := ⟨_, rfl⟩
              have HN4 := Lib.hid ((HN3.out.fset i (.int .u64 ((needN zs i k ||| 2 ^ k : Nat) : Int))).fcongr fun t _ => needV_or HA.out t)
              rw [hD] at x0 hor HN4
              have hf := HN3.out.fz i
              clear hnl hp1 hD
              go_wp2_with fail
              go_region
              go_wp2_with fail
              go_roundw
              case rel => exact ⟨k + 1, by go_num, by omega, HN4.out.drew, (HB3.out.setCell (show w.heap.size ≤ _ by omega) _).drew⟩
              case measure => simp [intOf]; omega
            · have ba : decide (zk.hi < zi.lo) = false := decide_eq_false ca
              have HA := Lib.hid (show ¬ ahB zs k i = true by rw [HAh.out, ba]; simp)
              go_wp2_with fail
              go_roundw
              case rel => exact ⟨k + 1, by go_num, by omega, HN3.out.fcongr fun t _ => needV_same HA.out t, HB3.out⟩
              case measure => simp [intOf]; omega
        · obtain rfl : k = n := by omega
          have HN := Lib.hid hN
          have HB := Lib.hid hB
          clear hN hB
          go_wp2_with fail
          go_roundw
          case rel => exact ⟨i + 1, by go_num, by omega, HN.out.fcongr fun t _ => needV_next zs k i t, HB.out⟩
          case measure => simp [intOf]; omega
    · obtain rfl : i = n := by omega
      obtain ⟨M, hM⟩ : ∃ M, 2 ^ i = M := ⟨_, rfl⟩
      have hM4 : M ≤ 4096 := by
        have h1 : 2 ^ i ≤ 2 ^ 12 := Nat.pow_le_pow_right (by omega) (by omega)
        have : (2 : Nat) ^ 12 = 4096 := by decide
        omega
      have hM1 : 1 ≤ M := by have := Nat.two_pow_pos i; omega
      have hsh : IntKind.i64.wrap ((2 : Int) ^ i) = (M : Int) := by
        rw [show ((2 : Int) ^ i) = ((2 ^ i : Nat) : Int) by simp, hM]
        exact IntWalk.i64_in (M : Int) (by omega)
      have HMe := Lib.hid hM
      have mk2 := run_make_row' (P := Try.prog) 31 3 (.int .i64 0) 8 Try.underlying31 infoI rfl .i64 .i64 M (by omega) (by omega)
      rw [made_f] at mk2
      have HW0 : Blk (wo.alloc (.cells (FCells (fun _ => .int .i64 0) M) 3)) wo.heap.size 3 (FCells (fun _ => .int .i64 0) M) := Blk.new _ _ _
      have x0 := HW0.fat (i := 0) (by omega)
      have f0 := HW0.fz 0
      have m0 : (0 : Int) < (M : Int) := by omega
      clear hM
      go_wp2_with fail
      obtain ⟨wb, hwb⟩ : ∃ wb, wb = wo.alloc (.cells ((FCells (fun _ => .int .i64 0) M).setIfInBounds 0 (.int .i64 1)) 3) := ⟨_, rfl⟩
      have hzo := HB.out.size
      have hbo := HN.out.lt
      have HWb := Lib.hid (show Blk wb wo.heap.size 3 (FCells (fun T => .int .i64 (wayV zs 1 0 T)) M) by
        rw [hwb]
        have h := Blk.new wo 3 ((FCells (fun _ => Value.int .i64 0) M).setIfInBounds 0 (.int .i64 1))
        have h2 := Eq.mp (congrArg (fun cs => Blk (wo.alloc (.cells ((FCells (fun _ => Value.int .i64 0) M).setIfInBounds 0 (.int .i64 1)) 3)) wo.heap.size 3 cs) (FCells.set (fun _ => Value.int .i64 0) M 0 (.int .i64 1))) h
        exact h2.fcongr fun T _ => wayV_start zs T)
      have HNb := Lib.hid (show Blk wb b 38 (FCells (fun t => .int .u64 ((needN zs t i : Nat) : Int)) i) by
        rw [hwb]
        exact (HN.out.fcongr fun t ht => by unfold needV; rw [if_pos ht]).alloc _)
      have HBb := Lib.hid (show Below w.heap.size w wb by have := HB.out; rw [hwb]; exact (by repeat (first | with_reducible exact Below.refl _ _ | (with_reducible refine Below.alloc ?_ (by first | omega | (simp; done) | (simp; omega)) _) | (with_reducible refine Below.setCell ?_ (by first | omega | (simp; done) | (simp; omega)) _) | (with_reducible refine Below.drew ?_) | (with_reducible refine below_drewN ?_ _) | (with_reducible assumption) | (with_reducible refine bel_step (by with_reducible assumption) ?_ (by first | omega | (simp; done) | (simp; omega))))))
      rw [← hwb]
      clear hwb mk2 HW0 x0 f0 HN HB HNa HBa hsh H H1 hEV
      obtain ⟨g, hg⟩ : ∃ g, wo.heap.size = g := ⟨_, rfl⟩
      rw [hg] at HWb hbo hzo ⊢
      clear hg
      go_loopw [9] (fun sv wr => ∃ S : Nat, sv = .int .u64 S ∧ 1 ≤ S ∧ S ≤ M ∧ Blk wr g 3 (FCells (fun T => .int .i64 (wayV zs S 0 T)) M) ∧ Blk wr b 38 (FCells (fun t => .int .u64 ((needN zs t i : Nat) : Int)) i) ∧ Below w.heap.size w wr) (fun sv _ => M - (intOf sv).toNat)
      case atStart => exact ⟨1, rfl, by omega, by omega, HWb.out, HNb.out, HBb.out⟩
      case round =>
        obtain ⟨S, rfl, hS1, hS, hW, hN, hB⟩ := hrel
        have HW := Lib.hid hW
        have HN := Lib.hid hN
        have HB := Lib.hid hB
        obtain ⟨wo, rfl⟩ : ∃ wo : World, wo = wr := ⟨_, rfl⟩
        have HLn := Lib.hid (bits_Len (S : Int) wo (by omega) (by omega))
        have hbl := bitLen_le (x := S) (n := i) (by omega)
        rw [HMe.out] at hbl
        simp only [Int.toNat_natCast] at HLn
        obtain ⟨L, hL⟩ : ∃ L, Lib.bitLen S = L := ⟨_, rfl⟩
        rw [hL] at HLn hbl
        clear hW hN hB hL
        by_cases d3 : S < M
        · have d4 : (L : Int) ≤ (i : Int) := by have := hbl.2 d3; omega
          clear hbl
          go_wp2_with fail
          refine HLn.out.mono ?_
          rintro e w4 ⟨rfl, rfl⟩
          clear HLn
          go_wp2_with fail
          clear d4
          go_loopw [63] (fun jv wr => ∃ j : Nat, jv = .int .i64 j ∧ j ≤ i ∧ Blk wr g 3 (FCells (fun T => .int .i64 (wayV zs S j T)) M) ∧ Blk wr b 38 (FCells (fun t => .int .u64 ((needN zs t i : Nat) : Int)) i) ∧ Below w.heap.size w wr) (fun jv _ => i - (intOf jv).toNat)
          case atStart => exact ⟨0, rfl, by omega, HW.out, HN.out, HB.out⟩
          case round =>
            obtain ⟨j, rfl, hj, hW, hN, hB⟩ := hrel
            have HWj := Lib.hid hW
            have HNj := Lib.hid hN
            have HBj := Lib.hid hB
            by_cases d5 : j < i
            · have b1 := and_ne (S := S) (i := j) (by omega) (by omega)
              have b2 := andNot_0 (j := j) HL.out p1 (S := S) (by omega)
              have x0 := hN.fat d5
              have x1 := hW.fat (i := S) (by omega)
              rw [wayV_at] at x1
              have f1 := hW.fz S
              have gW := hW.lt
              have CL := Lib.hid (fun (W' : World) (hw : ∀ p, W'.cell? p = wr.cell? p) => order_last zs i HL.out p1 g b M i M (fun T => wayV zs S j T) S j d5 (by rw [HMe.out]; exact d3) HMe.out.symm W' (fun R hR => (hw _).trans (hW.fat (by rw [← HMe.out]; exact hR))) (fun k hk => (hw _).trans (hN.fat hk)))
              have q0 : (0 : Int) ≤ (j : Int) := by omega
              have q1 : (j : Int) < (i : Int) := by omega
              have q2 : (0 : Int) ≤ (S : Int) := by omega
              have q3 : (S : Int) < (M : Int) := by omega
              obtain ⟨D, hD⟩ : ∃ D, needN zs j i = D := ⟨_, rfl⟩
              rw [hD] at x0 b2
              have HV0 := Lib.hid (show ¬ (S.testBit j = true ∧ rdy zs S j = true) → vT zs S j = 0 from fun h => by unfold vT; rw [if_neg h])
              clear hW hN hB hD
              cases e1 : S.testBit j
              · rw [e1] at b1 HV0
                have HV := Lib.hid (HV0.out (by simp))
                clear b2 CL x1 HV0 e1
                go_wp2_with fail
                go_roundw
                case rel => exact ⟨j + 1, by go_num, by omega, HWj.out.fcongr fun T _ => wayV_same HV.out T, HNj.out, HBj.out⟩
                case measure => simp [intOf]; omega
              · rw [e1] at b1 HV0
                cases e2 : rdy zs S j
                · rw [e2] at b2 HV0
                  have HV := Lib.hid (HV0.out (by simp))
                  clear CL x1 HV0 e1 e2
                  go_wp2_with fail
                  go_roundw
                  case rel => exact ⟨j + 1, by go_num, by omega, HWj.out.fcongr fun T _ => wayV_same HV.out T, HNj.out, HBj.out⟩
                  case measure => simp [intOf]; omega
                · rw [e2] at b2
                  have hls : less S j = S - 2 ^ j := by unfold less; rw [if_pos e1]
                  have hlt : S - 2 ^ j < S := by have := bit_ge e1; have := Nat.two_pow_pos j; omega
                  have HC : (if lastB zs (less S j) j = true then wayV zs S j (less S j) else 0) = ((vT zs S j : Nat) : Int) := by
                    rw [hls, wayV_lt _ _ _ _ hlt]
                    rw [vT_on e1 e2]
                    split <;> rfl
                  have CL := Lib.hid (fun W' hw => by have h := CL.out W' hw; rw [HC] at h; exact h)
                  have hsum : sumN (vT zs S) j + vT zs S j = sumN (vT zs S) (j + 1) := rfl
                  have hle := vT_le HR.out HL.out p1 (S := S) (j := j + 1) (by omega) (by omega)
                  rw [← hsum] at hle
                  have HWn := Lib.hid ((HWj.out.fset S (.int .i64 ((sumN (vT zs S) (j + 1) : Nat) : Int))).fcongr fun T _ => wayV_set zs S j T)
                  rw [← hsum] at HWn
                  clear HC hsum hls hlt e1 e2 HV0
                  obtain ⟨Y, hY⟩ : ∃ Y, sumN (vT zs S) j = Y := ⟨_, rfl⟩
                  obtain ⟨Z, hZ⟩ : ∃ Z, vT zs S j = Z := ⟨_, rfl⟩
                  rw [hY, hZ] at hle HWn
                  rw [Int.natCast_add] at HWn
                  have hbg : b ≠ g := by omega
                  have CL := Lib.hid (fun W' hw => by have h := CL.out W' hw; rw [hZ] at h; exact h)
                  rw [hY] at x1
                  have hwr := IntWalk.i64_in ((Y : Int) + (Z : Int)) (by omega)
                  clear hY hZ
                  go_wp2_with fail
                  go_still_tail 11, (by kernel_rfl)
                  still_call ((CL.out wr.drew (fun _ => rfl)).mono (fun e w' h => ⟨h.1, h.2.symm⟩))
                  repeat still_step
                  refine wpStill_nil ?_
                  change wpList _ _ _ _ _ wr.drew
                  go_wp2_with fail
                  go_roundw
                  case rel => exact ⟨j + 1, by go_num, by omega, HWn.out.drew, (HNj.out.far hbg _).drew, (HBj.out.setCell (show w.heap.size ≤ _ from hzo) _).drew⟩
                  case measure => simp [intOf]; omega
            · obtain rfl : j = i := by omega
              have hS2 : (S : Int) + 1 = ((S + 1 : Nat) : Int) := by omega
              have hw2 : IntKind.u64.wrap ((S : Int) + 1) = (S : Int) + 1 := by rw [hS2]; exact wrap_nat (by omega)
              have HWn := Lib.hid (HWj.out.fcongr fun T _ => wayV_next HR.out HL.out (by omega) T)
              clear hW hN hB hS2
              go_wp2_with fail
              go_roundw
              case rel => exact ⟨S + 1, by go_num, by omega, by omega, HWn.out, HNj.out, HBj.out⟩
              case measure => simp [intOf]; omega
        · have d4 : ¬ (L : Int) ≤ (i : Int) := by have := fun h => d3 (hbl.1 h); omega
          obtain rfl : S = M := by omega
          have x9 : wo.cell? ⟨g, S - 1, none⟩ = some (.int .i64 (wN zs (2 ^ i - 1) : Nat)) := by
            have h := HW.out.fat (i := S - 1) (by omega)
            rw [wayV_lt _ _ _ _ (by omega)] at h
            rw [HMe.out]; exact h
          have hsb : (S : Int) - 1 = ((S - 1 : Nat) : Int) := by omega
          have m1 : S - 1 < S := by omega
          obtain ⟨R, hR⟩ : ∃ R, S - 1 = R := ⟨_, rfl⟩
          rw [hR] at x9 hsb m1
          have m2 : (0 : Int) ≤ (R : Int) := by omega
          have m3 : (R : Int) < (S : Int) := by omega
          clear hbl hR
          go_wp2_with fail
          refine HLn.out.mono ?_
          rintro e w4 ⟨rfl, rfl⟩
          clear HLn
          go_wp2_with fail
          go_ret2
          exact ⟨rfl, HB.out⟩
set_option maxRecDepth 100000 in
set_option maxHeartbeats 4000000 in
theorem order_Many_bad (A : Option Addr) (n c : Nat) (zs : List REvent) (w : World) (h : IsRecs w REvent.cells REvent.ok 3 A n c zs) (E : Int) (e0 : evC zs = E) (hE : E ≠ 0) :
    Calls Try.prog 4 #[.slice A n c] w fun e w' => e = .returned (.tuple #[.int .i64 0, .iface 44 (.int .i64 E)]) ∧ Below w.heap.size w w' := by
  have CK := order_Check A n c zs w h
  rw [e0, errV_ne hE] at CK
  have CK := Lib.hid CK
  clear h e0
  go_enter Try.func4, Try.ntmps4
  go_wp2_with fail
  refine CK.out.mono ?_
  rintro e w1 ⟨rfl, hb1⟩
  go_wp2_with fail
  go_ret2
  exact ⟨rfl, hb1⟩
end Go.Proofs.Ythclepohilekaaa
