/- Texts that serve many laws, one behind the other. -/
import Derived.Shelf.Strings.Prefix
import Derived.Shelf.Strings.SplitShaped
import Derived.Test.YtldlandcjegikaaGreatDoorHKA
import Derived.Test.YtldlandcjegikaaGreatDoorHSpanS
set_option linter.unusedVariables false
set_option linter.unusedSimpArgs false
namespace Go.Proofs.YtldlandcjegikaaGreatDoor

section
open Go.RowKit Go.Shelf
theorem word_beq (x : ByteArray) (l : List UInt8) : (x.toList == l) = decide (x.data.toList = l) := by
 rw [ByteArray.toList_eq]
 exact Bool.beq_eq_decide_eq _ _
structure Eqs (x : ByteArray) (k : Nat) : Prop where
 q1 : (x.toList == [103, 111]) = decide (k = 1)
 q2 : (x.toList == [97, 115, 107]) = decide (k = 2)
 q3 : (x.toList == [100, 101, 108, 105, 118, 101, 114]) = decide (k = 3)
 q4 : (x.toList == [108, 111, 115, 101]) = decide (k = 4)
 q5 : (x.toList == [114, 101, 112, 101, 97, 116]) = decide (k = 5)
 q6 : (x.toList == [115, 104, 111, 119]) = decide (k = 6)
 q7 : (x.toList == [100, 97, 116, 101]) = decide (k = 7)
 q8 : (x.toList == [111, 102, 102, 115, 101, 116]) = decide (k = 8)
 q9 : (x.toList == [119, 105, 100, 101]) = decide (k = 9)
theorem eqs_of (x : ByteArray) : Eqs x (wordK x.data.toList) := by
 obtain ⟨e1, e2, e3, e4, e5, e6, e7, e8, e9⟩ := wordK_eq x.data.toList
 exact ⟨(word_beq x wGo).trans e1, (word_beq x wAsk).trans e2, (word_beq x wDeliver).trans e3, (word_beq x wLose).trans e4, (word_beq x wRepeat).trans e5, (word_beq x wShow).trans e6, (word_beq x wDate).trans e7, (word_beq x wOffset).trans e8, (word_beq x wWide).trans e9⟩
theorem ten {k : Nat} (h : k < 10) : k = 0 ∨ k = 1 ∨ k = 2 ∨ k = 3 ∨ k = 4 ∨ k = 5 ∨ k = 6 ∨ k = 7 ∨ k = 8 ∨ k = 9 := by omega
set_option maxHeartbeats 2000000 in
theorem run_wants (x : ByteArray) (k : Nat) (hk : k < 10) (h : Eqs x k) (w : World) : Calls Tryz.prog 61 #[.string x] w fun e w' => e = .returned (.tuple #[.int .i64 (if wantN k < 0 then 0 else wantN k), .bool (decide (0 ≤ wantN k))]) ∧ w = w' := by
 obtain ⟨q1, q2, q3, q4, q5, q6, q7, q8, q9⟩ := h
 rcases ten hk with rfl | rfl | rfl | rfl | rfl | rfl | rfl | rfl | rfl | rfl
 all_goals
  first | (replace q1 : _ = true := q1) | (replace q1 : _ = false := q1)
  first | (replace q2 : _ = true := q2) | (replace q2 : _ = false := q2)
  first | (replace q3 : _ = true := q3) | (replace q3 : _ = false := q3)
  first | (replace q4 : _ = true := q4) | (replace q4 : _ = false := q4)
  first | (replace q5 : _ = true := q5) | (replace q5 : _ = false := q5)
  first | (replace q6 : _ = true := q6) | (replace q6 : _ = false := q6)
  first | (replace q7 : _ = true := q7) | (replace q7 : _ = false := q7)
  first | (replace q8 : _ = true := q8) | (replace q8 : _ = false := q8)
  first | (replace q9 : _ = true := q9) | (replace q9 : _ = false := q9)
  go_enter Tryz.func61, Tryz.ntmps61
  go_wp2
  go_ret2
  exact ⟨rfl, rfl⟩
set_option maxHeartbeats 2000000 in
theorem run_acts (x : ByteArray) (k : Nat) (hk : k < 10) (h : Eqs x k) (w : World) : Calls Tryz.prog 63 #[.string x] w fun e w' => e = .returned (.tuple #[.int .i64 (actN k), .bool (decide (0 < actN k))]) ∧ w = w' := by
 obtain ⟨q1, q2, q3, q4, q5, q6, q7, q8, q9⟩ := h
 clear q6 q7 q8 q9
 rcases ten hk with rfl | rfl | rfl | rfl | rfl | rfl | rfl | rfl | rfl | rfl
 all_goals
  first | (replace q1 : _ = true := q1) | (replace q1 : _ = false := q1)
  first | (replace q2 : _ = true := q2) | (replace q2 : _ = false := q2)
  first | (replace q3 : _ = true := q3) | (replace q3 : _ = false := q3)
  first | (replace q4 : _ = true := q4) | (replace q4 : _ = false := q4)
  first | (replace q5 : _ = true := q5) | (replace q5 : _ = false := q5)
  go_enter Tryz.func63, Tryz.ntmps63
  go_wp2
  go_ret2
  exact ⟨rfl, rfl⟩
end


section
open Go.RowKit Go.Shelf
def splitL_ren : Go.Shelf.Ren := ⟨fun | 146 => 60 | 221 => 92 | 268 => 126 | 138 => 127 | 143 => 128 | 195 => 155 | 197 => 156 | 218 => 157 | 219 => 87 | 260 => 176 | 217 => 58 | 225 => 117 | 224 => 118 | 267 => 119 | 266 => 91 | 314 => 147 | n => n, fun | 9 => 9 | 31 => 23 | 3 => 3 | 4 => 4 | 0 => 0 | 105 => 248 | 21 => 21 | 5 => 5 | 46 => 211 | 119 => 269 | 139 => 272 | 138 => 271 | 146 => 234 | 51 => 233 | n => n, fun | 1 => 2 | 3 => 7 | 4 => 8 | n => n⟩
theorem splitL : Go.Proofs.LaysM.n146 Tryz.prog splitL_ren := {
 mixed := by kernel_rfl
 f138 := Tryz.func127.trans (congrArg some kRf)
 f143 := Tryz.func128.trans (congrArg some kRf)
 f146 := Tryz.func60.trans (congrArg some kRf)
 f195 := Tryz.func155.trans (congrArg some kRf)
 f197 := Tryz.func156.trans (congrArg some kRf)
 f217 := Tryz.func58.trans (congrArg some kRf)
 f218 := Tryz.func157.trans (congrArg some kRf)
 f219 := Tryz.func87.trans (congrArg some kRf)
 f221 := Tryz.func92.trans (congrArg some kRf)
 f224 := Tryz.func118.trans (congrArg some kRf)
 f225 := Tryz.func117.trans (congrArg some kRf)
 f260 := Tryz.func176.trans (congrArg some kRf)
 f266 := Tryz.func91.trans (congrArg some kRf)
 f267 := Tryz.func119.trans (congrArg some kRf)
 f268 := Tryz.func126.trans (congrArg some kRf)
 f314 := Tryz.func147.trans (congrArg some kRf)
 t0 := Tryz.underlying0
 a0 := Tryz.isAgg0
 z0 := Tryz.sizeOf0
 v0 := Tryz.zeroValue0
 t3 := Tryz.underlying3
 a3 := Tryz.isAgg3
 z3 := Tryz.sizeOf3
 v3 := Tryz.zeroValue3
 t4 := Tryz.underlying4
 a4 := Tryz.isAgg4
 z4 := Tryz.sizeOf4
 v4 := Tryz.zeroValue4
 t5 := Tryz.underlying5
 a5 := Tryz.isAgg5
 z5 := Tryz.sizeOf5
 v5 := Tryz.zeroValue5
 t9 := Tryz.underlying9
 a9 := Tryz.isAgg9
 z9 := Tryz.sizeOf9
 v9 := Tryz.zeroValue9
 t21 := Tryz.underlying21
 a21 := Tryz.isAgg21
 z21 := Tryz.sizeOf21
 v21 := Tryz.zeroValue21
 t31 := Tryz.underlying23
 a31 := Tryz.isAgg23
 z31 := Tryz.sizeOf23
 v31 := Tryz.zeroValue23
 t46 := Tryz.underlying211
 a46 := Tryz.isAgg211
 z46 := Tryz.sizeOf211
 v46 := Tryz.zeroValue211
 t51 := Tryz.underlying233
 a51 := Tryz.isAgg233
 z51 := Tryz.sizeOf233
 v51 := Tryz.zeroValue233
 t105 := Tryz.underlying248
 a105 := Tryz.isAgg248
 z105 := Tryz.sizeOf248
 v105 := Tryz.zeroValue248
 t119 := Tryz.underlying269
 a119 := Tryz.isAgg269
 z119 := Tryz.sizeOf269
 t138 := Tryz.underlying271
 a138 := Tryz.isAgg271
 z138 := Tryz.sizeOf271
 v138 := Tryz.zeroValue271
 t139 := Tryz.underlying272
 a139 := Tryz.isAgg272
 z139 := Tryz.sizeOf272
 v139 := Tryz.zeroValue272
 t146 := Tryz.underlying234
 a146 := Tryz.isAgg234
 z146 := Tryz.sizeOf234
 v146 := Tryz.zeroValue234
 g1 := by kernel_rfl
 g3 := by kernel_rfl
 g4 := by kernel_rfl
 i0 := by kernel_rfl
 i3 := by kernel_rfl
 i4 := by kernel_rfl
 i5 := by kernel_rfl
 i9 := by kernel_rfl
 i21 := by kernel_rfl
 i31 := by kernel_rfl
 i46 := by kernel_rfl
 i51 := by kernel_rfl
 i105 := by kernel_rfl
 i138 := by kernel_rfl
 i139 := by kernel_rfl
 i146 := by kernel_rfl
 m1 := by kernel_rfl
 s1_3 := fun w h => Go.Proofs.cell_of_shapedOpen_int (zero := #[.int .i64 0]) (t := 3) h (of_decide_eq_true kRf) kRf rfl kRf kRf Tryz.underlying3
 m3 := by kernel_rfl
 m4 := by kernel_rfl }

def trimL_ren : Go.Shelf.Ren := ⟨fun | 102 => 18 | 209 => 40 | 207 => 75 | n => n, fun | 9 => 9 | 4 => 4 | 3 => 3 | n => n, fun | n => n⟩
theorem trimL : Go.Proofs.Lays.n102 Tryz.prog trimL_ren := {
 mixed := by kernel_rfl
 f102 := Tryz.func18.trans (congrArg some kRf)
 f207 := Tryz.func75.trans (congrArg some kRf)
 f209 := Tryz.func40.trans (congrArg some kRf)
 t3 := Tryz.underlying3
 a3 := Tryz.isAgg3
 z3 := Tryz.sizeOf3
 v3 := Tryz.zeroValue3
 t4 := Tryz.underlying4
 a4 := Tryz.isAgg4
 z4 := Tryz.sizeOf4
 v4 := Tryz.zeroValue4
 t9 := Tryz.underlying9
 a9 := Tryz.isAgg9
 z9 := Tryz.sizeOf9
 v9 := Tryz.zeroValue9 }

theorem split_any (s : ByteArray) (w : World) (h : SpanW w) (hs : s.size ≤ 1048576) :
  Calls Tryz.prog 60 #[.string s, .string ⟨#[32]⟩] w fun e w' => e = .returned (.slice (some ⟨w.heap.size, 0, none⟩) (Lib.countB s ⟨#[32]⟩ + 1) (Lib.countB s ⟨#[32]⟩ + 1)) ∧ w' = w.alloc (.cells ((Lib.splitB ⟨#[32]⟩ 0 (Lib.countB s ⟨#[32]⟩) s).map Value.string).toArray 9) := by
 obtain ⟨m, hm⟩ := h.most
 exact Any.strings_Split { splitL with } splitL.i9 s ⟨#[32]⟩ m w (by omega) hm (by decide)
theorem trim_any (s : ByteArray) (w : World) (hs : s.size ≤ 1048576) :
  Calls Tryz.prog 18 #[.string s, .string ⟨#[10]⟩] w fun e w' => e = .returned (.string ⟨(Lib.trimSuffix s.data.toList [10]).toArray⟩) ∧ w = w' := by
 refine (Any.strings_TrimSuffix { trimL with } s ⟨#[10]⟩ w (by omega)).mono ?_
 rintro e w' ⟨rfl, rfl⟩
 exact ⟨rfl, rfl⟩
set_option maxHeartbeats 2000000 in
theorem number7_bad (l : List UInt8) (w : World) (h : SpanW w) (hs : l.length ≤ 1048576) (ho : atoOk l = false) :
  Calls Tryz.prog 62 #[.string ⟨l.toArray⟩] w fun e w' => e = .returned (.tuple #[.int .i64 (atoV l), .bool (num7B l)]) ∧ Below w.heap.size w w' := by
 have hno : num7B l = false := by unfold num7B numOk; rw [ho]; rfl
 rw [hno]
 have hsz := str_len l
 obtain ⟨n, hn⟩ : ∃ n, atoV l = n := ⟨_, rfl⟩
 rw [hn]
 have HA := Lib.hid (atoi_bad l n w h hs ho hn)
 clear hno ho h hn
 obtain ⟨k, hk⟩ : ∃ k, l.length = k := ⟨_, rfl⟩
 obtain ⟨s, es⟩ : ∃ s : ByteArray, (⟨l.toArray⟩ : ByteArray) = s := ⟨_, rfl⟩
 rw [es] at HA hsz ⊢
 rw [hk] at hsz hs
 clear hk es
 go_enter Tryz.func62, Tryz.ntmps62
 go_wp2_with (go_at_call 52; refine (HA.out).mono ?_; rintro e w1 ⟨N, rfl, hb⟩; obtain ⟨hc, hf⟩ := bcell hb; have hz := hb.size; (try simp at hz))
 go_ret2
 exact ⟨rfl, BeL⟩
set_option maxHeartbeats 4000000 in
theorem number7_good (l : List UInt8) (w : World) (h : SpanW w) (hs : l.length ≤ 1048576) (ho : atoOk l = true) :
  Calls Tryz.prog 62 #[.string ⟨l.toArray⟩] w fun e w' => e = .returned (.tuple #[.int .i64 (atoV l), .bool (num7B l)]) ∧ Below w.heap.size w w' := by
 have hb := atoV_in l
 have hsz := str_len l
 have hq := str_beq (Lib.itoa (atoV l)) l
 obtain ⟨q, eq⟩ : ∃ q, sameL (Lib.itoa (atoV l)) l = q := ⟨_, rfl⟩
 have hno : num7B l = (decide (0 ≤ atoV l) && (decide ((l.length : Int) ≤ 7) && q)) := by
  unfold num7B numOk shortN backN longN
  rw [ho, eq]
  by_cases h0 : 0 ≤ atoV l
  ·by_cases h7 : l.length ≤ 7
   ·rw [if_neg (by omega)]
    have h8 : (l.length : Int) ≤ 13 := by omega
    have h9 : (l.length : Int) ≤ 7 := by omega
    simp [h0, h7, h8, h9]
   ·have h9 : ¬ (l.length : Int) ≤ 7 := by omega
    simp [h0, h7, h9]
  ·simp [h0]
 rw [hno]
 rw [eq] at hq
 have HW := Lib.hid h
 clear hno eq
 obtain ⟨n, hn⟩ : ∃ n, atoV l = n := ⟨_, rfl⟩
 have HA := Lib.hid (atoi_good l n w hs ho hn)
 rw [hn] at hb hq ⊢
 obtain ⟨si, esi, _, CI⟩ := itoa_let n hb.1 hb.2
 rw [esi] at hq
 replace CI := Lib.hid CI
 clear ho h hn esi
 obtain ⟨k, hk⟩ : ∃ k, l.length = k := ⟨_, rfl⟩
 obtain ⟨s, es⟩ : ∃ s : ByteArray, (⟨l.toArray⟩ : ByteArray) = s := ⟨_, rfl⟩
 rw [es] at HA hsz hq ⊢
 rw [hk] at hsz hs ⊢
 clear hk es
 obtain ⟨h0, h1⟩ := hb
 by_cases hneg : 0 ≤ n <;> by_cases hl : (k : Int) ≤ 7 <;> cases q
 all_goals
  go_enter Tryz.func62, Tryz.ntmps62
  go_wp2_with (first | (go_at_call 52; refine (HA.out).mono ?_; rintro e w1 ⟨rfl, hb⟩; obtain ⟨hc, hf⟩ := bcell hb; have hz := hb.size; (try simp at hz)) | (go_at_call 53; refine (CI.out _ (SpanW.below HW.out BeL)).mono ?_; rintro e w2 ⟨rfl, hb2⟩; obtain ⟨hc2, hf2⟩ := bcell hb2; have hz2 := hb2.size; (try simp at hz2); (try have := q00_ w w2); (try have := q02_ w w2); (try have := q03_ w w2); (try have := q10_ w w2); (try have := q12_ w w2); (try have := q13_ w w2); (try have := q20_ w w2); (try have := q22_ w w2); (try have := q23_ w w2); (try have := q30_ w w2); (try have := q32_ w w2); (try have := q33_ w w2); (try have := q00_ w1 w2); (try have := q02_ w1 w2); (try have := q10_ w1 w2); (try have := q12_ w1 w2)))
  go_ret2
  exact ⟨by simp [hneg, hl], BeL⟩
theorem run_number (s : ByteArray) (w : World) (h : SpanW w) (hs : s.size ≤ 1048576) :
  Calls Tryz.prog 62 #[.string s] w fun e w' => e = .returned (.tuple #[.int .i64 (atoV s.data.toList), .bool (num7B s.data.toList)]) ∧ Below w.heap.size w w' := by
 rw [← str_len2] at hs
 cases ho : atoOk s.data.toList with
 | false => have := number7_bad s.data.toList w h hs ho; rwa [str_of] at this
 | true => have := number7_good s.data.toList w h hs ho; rwa [str_of] at this
end
end Go.Proofs.YtldlandcjegikaaGreatDoor
