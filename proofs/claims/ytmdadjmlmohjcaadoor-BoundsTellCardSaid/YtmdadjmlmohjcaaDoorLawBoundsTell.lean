/- Proved: the tied card of noonlaw1.BoundsTell: it answers true for every input and leaves its arguments as they were. The card's own condition: errors.errorType holds what the program's text lays there. -/
import Derived.Test.YtmdadjmlmohjcaaDoorDoor
import Derived.Test.YtmdadjmlmohjcaaDoorTellP
import Derived.Test.YtmdadjmlmohjcaaDoorTightW
import Derived.Test.YtmdadjmlmohjcaaDoorAllF
import Derived.Test.YtmdadjmlmohjcaaDoorFits
import Derived.Deep.DeepCutAuto
import Derived.Deep.CutBlock
namespace Go.Proofs.YtmdadjmlmohjcaaDoor.lBoundsTell
open Go.ChangeShapes Go.WideShapes Go.ChangeAt Go.RowKit
set_option linter.unusedVariables false
set_option linter.unusedSimpArgs false
theorem all_take {α : Type} {l : List α} {p : α → Bool} {k : Nat} {z : α} (h : l[k]? = some z) : (l.take (k + 1)).all p = ((l.take k).all p && p z) := by
  rw [List.take_add_one, h]
  simp
theorem okC_all {l : List Int} {k : Nat} {z : Int} (h : l[k]? = some z) (hz : timeB z = false) : okC (l.all timeB) = 1 := by
  have : l.all timeB = false := List.all_eq_false.2 ⟨z, List.mem_of_getElem? h, by rw [hz]; simp⟩
  rw [this]; rfl
/-- what the document's way leaves. -/
def TightC (N : Nat) (zs : List REdge) (f d h : Value) (w : World) : Prop :=
  (Sunk (Arc zs) N ∧ f = .int .i64 7 ∧ d = .slice none 0 0 ∧ h = .slice none 0 0) ∨
  (¬ Sunk (Arc zs) N ∧ f = .int .i64 0 ∧ ∃ (D : Nat → Nat → Int) (H : Nat → Nat → Bool) (A B : Option Addr) (c e : Nat), d = .slice A N c ∧ h = .slice B N e ∧ Tells (Arc zs) N D H ∧
    (∀ a b, a < N → H a b = true → -2000000000000000 ≤ D a b ∧ D a b ≤ 2000000000000000) ∧ IsMat w intCells 1 A N c N D ∧ IsMat w boolCells 1 B N e N H)
/-- and when all bounds were looked at. -/
def StateC (N : Nat) (zs : List REdge) (F : Int) (d h : Value) (w : World) : Prop :=
  (Sunk (Arc zs) N ∧ F = 7 ∧ d = .slice none 0 0 ∧ h = .slice none 0 0) ∨
  (¬ Sunk (Arc zs) N ∧ ∃ (D : Nat → Nat → Int) (H : Nat → Nat → Bool) (A B : Option Addr) (c e : Nat), TimeS N D H F ∧ d = .slice A N c ∧ h = .slice B N e ∧ Tells (Arc zs) N D H ∧
    (∀ a b, a < N → H a b = true → -2000000000000000 ≤ D a b ∧ D a b ≤ 2000000000000000) ∧ IsMat w intCells 1 A N c N D ∧ IsMat w boolCells 1 B N e N H)
theorem StateC.below {N : Nat} {zs : List REdge} {F : Int} {d h : Value} {w w' : World} (g : StateC N zs F d h w) (hb : Below w.heap.size w w') : StateC N zs F d h w' := by
  rcases g with g | ⟨g1, D, H, A, B, c, e, g2, g3, g4, g5, g6, g7, g8⟩
  · exact .inl g
  · exact .inr ⟨g1, D, H, A, B, c, e, g2, g3, g4, g5, g6, g7.below hb, g8.below hb⟩
theorem nodes_ways {N : Nat} {a b : Int} {NB : Bool} (h : (nodeB N a && nodeB N b) = NB) : (NB = false ∧ a < 0) ∨ (NB = false ∧ ¬ a < 0 ∧ (N : Int) ≤ a) ∨ (NB = false ∧ ¬ a < 0 ∧ ¬ (N : Int) ≤ a ∧ b < 0) ∨ (NB = false ∧ ¬ a < 0 ∧ ¬ (N : Int) ≤ a ∧ ¬ b < 0 ∧ (N : Int) ≤ b) ∨ (NB = true ∧ ¬ a < 0 ∧ ¬ (N : Int) ≤ a ∧ ¬ b < 0 ∧ ¬ (N : Int) ≤ b) := by
  subst h
  have key : (nodeB N a && nodeB N b) = true ↔ (0 ≤ a ∧ a < N) ∧ (0 ≤ b ∧ b < N) := by rw [Bool.and_eq_true, nodeB_iff, nodeB_iff]
  by_cases h1 : a < 0
  · exact .inl ⟨Bool.eq_false_iff.2 fun q => by have := key.1 q; omega, h1⟩
  by_cases h2 : (N : Int) ≤ a
  · exact .inr (.inl ⟨Bool.eq_false_iff.2 fun q => by have := key.1 q; omega, h1, h2⟩)
  by_cases h3 : b < 0
  · exact .inr (.inr (.inl ⟨Bool.eq_false_iff.2 fun q => by have := key.1 q; omega, h1, h2, h3⟩))
  by_cases h4 : (N : Int) ≤ b
  · exact .inr (.inr (.inr (.inl ⟨Bool.eq_false_iff.2 fun q => by have := key.1 q; omega, h1, h2, h3, h4⟩)))
  · exact .inr (.inr (.inr (.inr ⟨key.2 ⟨⟨by omega, by omega⟩, by omega, by omega⟩, h1, h2, h3, h4⟩)))
theorem bet_sunk {N : Nat} {zs : List REdge} {a b : Int} {x : RSpan} {c : Int} {NB : Bool} (hc : edgesC N zs = 0) (hs : Sunk (Arc zs) N) (hn : (nodeB N a && nodeB N b) = NB) (h : BetS N zs a b x c) : c = (if NB = true then 7 else 1) ∧ x = ⟨0, 0⟩ := by
  rcases h with ⟨h, _⟩ | ⟨_, h1, h2, h3⟩ | ⟨_, h1, h⟩
  · exact absurd hc h
  · rw [h1] at hn
    subst hn
    exact ⟨h2, h3⟩
  · rw [h1] at hn
    subst hn
    rcases h with ⟨_, h2, h3⟩ | ⟨h, _⟩
    · exact ⟨h2, h3⟩
    · exact absurd hs h
theorem bet_one {N : Nat} {a b : Int} {x : RSpan} {c : Int} {D : Nat → Nat → Int} {H : Nat → Nat → Bool} (h : ((nodeB N a && nodeB N b) = false ∧ c = 1 ∧ x = ⟨0, 0⟩) ∨ (∃ i j : Nat, a = i ∧ b = j ∧ i < N ∧ j < N ∧
      (((1 : Int) = 1 ∧ c = 1 ∧ x = ⟨0, 0⟩) ∨ ((1 : Int) = 0 ∧ ((H i j = false ∧ c = 5 ∧ x = ⟨0, 0⟩) ∨ (H i j = true ∧ c = 0 ∧ x = ⟨-(D j i), D i j⟩)))))) : c = 1 ∧ x = ⟨0, 0⟩ := by
  rcases h with ⟨_, h⟩ | ⟨i, j, _, _, _, _, ⟨_, h⟩ | ⟨h, _⟩⟩
  · exact h
  · exact h
  · exact absurd h (by decide)
theorem bet_off {N : Nat} {zs : List REdge} {a b : Int} {x : RSpan} {c : Int} (hc : edgesC N zs = 0) (hn : (nodeB N a && nodeB N b) = false) (h : BetS N zs a b x c) : c = 1 ∧ x = ⟨0, 0⟩ := by
  rcases h with ⟨h, _⟩ | ⟨_, h1, h2, h3⟩ | ⟨_, h1, h⟩
  · exact absurd hc h
  · exact ⟨h2, h3⟩
  · rw [h1] at hn; cases hn
theorem bet_yes {N i j : Nat} {x : RSpan} {c : Int} {D : Nat → Nat → Int} {H : Nat → Nat → Bool} (hi : i < N) (hj : j < N) (h : ((nodeB N (i : Int) && nodeB N (j : Int)) = false ∧ c = 1 ∧ x = ⟨0, 0⟩) ∨ (∃ a b : Nat, (i : Int) = a ∧ (j : Int) = b ∧ a < N ∧ b < N ∧
      (((0 : Int) = 1 ∧ c = 1 ∧ x = ⟨0, 0⟩) ∨ ((0 : Int) = 0 ∧ ((H a b = false ∧ c = 5 ∧ x = ⟨0, 0⟩) ∨ (H a b = true ∧ c = 0 ∧ x = ⟨-(D b a), D a b⟩)))))) :
    (H i j = false ∧ c = 5 ∧ x = ⟨0, 0⟩) ∨ (H i j = true ∧ c = 0 ∧ x = ⟨-(D j i), D i j⟩) := by
  rcases h with ⟨h, _⟩ | ⟨a, b, ha, hb, _, _, ⟨h, _⟩ | ⟨_, h⟩⟩
  · have q1 : nodeB N (i : Int) = true := nodeB_iff.2 (by omega)
    have q2 : nodeB N (j : Int) = true := nodeB_iff.2 (by omega)
    rw [q1, q2] at h; cases h
  · exact absurd h (by decide)
  · have e1 : a = i := by omega
    have e2 : b = j := by omega
    subst e1; subst e2
    exact h
theorem time_ex {N : Nat} (D : Nat → Nat → Int) (H : Nat → Nat → Bool) : ∃ F, TimeS N D H F := by
  by_cases h : ∃ a b, a < N ∧ b < N ∧ H a b = true ∧ timeB (D a b) = false
  · exact ⟨1, .inr ⟨rfl, h⟩⟩
  · refine ⟨0, .inl ⟨rfl, fun a b ha hb hh => ?_⟩⟩
    cases q : timeB (D a b)
    · exact absurd ⟨a, b, ha, hb, hh, q⟩ h
    · rfl
set_option maxRecDepth 100000 in
set_option maxHeartbeats 32000000 in
theorem walk (a0 : Int) (a1 : Option Addr) (n1 c1 : Nat) (z1 : List REdge) (a2 : Int) (a3 : Int) (a4 : Option Addr) (n4 c4 : Nat) (z4 : List Int) (w : World) (h0 : -9223372036854775808 ≤ a0 ∧ a0 ≤ 9223372036854775807) (h1 : IsRecs w REdge.cells REdge.ok 4 a1 n1 c1 z1) (h2 : -9223372036854775808 ≤ a2 ∧ a2 ≤ 9223372036854775807) (h3 : -9223372036854775808 ≤ a3 ∧ a3 ≤ 9223372036854775807) (h4 : IsInts w a4 n4 c4 z4) (hg : HandleAt w) :
    Calls Tryd.prog 4 #[.int .i64 a0, .slice a1 n1 c1, .int .i64 a2, .int .i64 a3, .slice a4 n4 c4] w fun e w' => e = .returned (.bool true) ∧ Below w.heap.size w w' := by
  have HG := Lib.hid hg
  have CE := Lib.hid (r1_Edges a0 a1 n1 c1 z1 w h1)
  have CK := Lib.hid (fun w' (hb : Below w.heap.size w w') => bounds_Check a0 a1 n1 c1 z1 w' (h1.below hb))
  have CF := Lib.hid (fun w' (hb : Below w.heap.size w w') => bounds_Fits a0 a1 n1 c1 z1 a4 n4 c4 z4 w' (h1.below hb) (h4.below hb))
  have CB := Lib.hid (fun w' (hb : Below w.heap.size w w') => bounds_Between a0 a1 n1 c1 z1 a2 a3 w' (h1.below hb))
  have HZ := Lib.hid h1
  have HP := Lib.hid h4
  have hm1 := h1.2.1
  have hm2 := h1.2.2.1
  have hm3 := h4.2.1
  have hm4 := h4.2.2.1
  unfold maxLen at hm2 hm4
  clear hg h0 h1 h4
  by_cases c0 : edgesC a0 z1 = 0
  · obtain ⟨d4, d5, d6, d7⟩ := edgesC_0 c0
    obtain ⟨N, rfl⟩ := Int.eq_ofNat_of_zero_le (show 0 ≤ a0 by omega)
    simp only [Int.toNat_natCast] at d7
    have hN6 : N ≤ 6 := by omega
    have hN1 : 1 ≤ N := by omega
    have hn40 : n1 ≤ 40 := by have := HZ.out.1; omega
    have CA := Lib.hid (fun w' (hb : Below w.heap.size w w') => bounds_All_ok N a1 n1 c1 z1 w' (HZ.out.below hb) c0)
    have CT := Lib.hid (fun w' (hb : Below w.heap.size w w') => r1_Tight N a1 n1 c1 z1 w' (HZ.out.below hb) hN1 hN6 hn40 d7)
    have HBT := Lib.hid (fun x c F D H (h : BetS N z1 a2 a3 x c) => bet_tell (F := F) (D := D) (H := H) h c0)
    have HFC := Lib.hid (show fitsC N z1 z4 = if n4 = N then okC (z4.all timeB) else 3 by
      have := HP.out.1
      unfold fitsC
      rw [if_pos c0]
      by_cases h : n4 = N
      · rw [if_pos h, if_pos (by omega)]
      · rw [if_neg h, if_neg (by omega)])
    have HFV := Lib.hid (show fitsV N z1 z4 = (decide (fitsC N z1 z4 = 0) && z1.all (fitB z4)) from rfl)
    obtain ⟨FC, hFC⟩ : ∃ c, fitsC N z1 z4 = c := ⟨_, rfl⟩
    obtain ⟨FV, hFV⟩ : ∃ c, fitsV N z1 z4 = c := ⟨_, rfl⟩
    rw [hFC, hFV] at CF HFV
    rw [hFC] at HFC
    have D7 := Lib.hid d7
    have HC0 := Lib.hid c0
    rw [c0] at CE CK
    clear c0 d7 hFC hFV
    go_enter Tryd.func4, Tryd.ntmps4
    go_wp2_with fail
    refine CE.out.mono ?_
    rintro e w1 ⟨rfl, hb1⟩
    have HB1 := Lib.hid hb1
    clear hb1
    go_wp2_with fail
    refine (CK.out _ HB1.out).mono ?_
    rintro e w2 ⟨rfl, hb2⟩
    have HB2 := Lib.hid (HB1.out.trans (hb2.mono HB1.out.size))
    clear hb2
    go_wp2_with fail
    refine (Error_nil 0 _ (HG.out.below HB2.out)).mono ?_
    rintro e w3 ⟨rfl, hb3⟩
    have HB3 := Lib.hid (HB2.out.trans (hb3.mono HB2.out.size))
    clear hb3
    go_upto_if 55 with fail
    go_cut [13] (fun u wx => u = .int .i64 (if n4 = N then 0 else 3) ∧ w3 = wx)
    case first =>
      as_aux_lemma =>
        by_cases hn : n4 = N
        · subst hn
          go_wp2_with fail
          go_meet
          case rel => exact ⟨by rw [if_pos rfl], rfl⟩
        · go_wp2_with fail
          go_meet
          case rel => exact ⟨by rw [if_neg hn], rfl⟩
    case rest =>
      obtain ⟨rfl, rfl⟩ := hcut
      go_upto_block 0 with fail
      go_cut [13] (fun u wx => u = .int .i64 FC ∧ w3 = wx)
      case first =>
        as_aux_lemma =>
          by_cases hn : n4 = N
          · have e0 := HFC.out
            rw [if_pos hn] at e0 ⊢
            subst hn
            have E0 := Lib.hid e0
            clear e0
            go_wp2_with fail
            go_loop [13, 15] (fun fv kv => ∃ (k : Nat) (f : Int), fv = .int .i64 f ∧ kv = .int .i64 k ∧ k ≤ n4 ∧ ((f = 0 ∧ ∀ j z, j < k → z4[j]? = some z → timeB z = true) ∨ (f = 1 ∧ FC = 1))) (fun _ kv => n4 - (intOf kv).toNat)
            case atStart => exact ⟨0, 0, rfl, rfl, by omega, .inl ⟨rfl, fun j z hj => absurd hj (by omega)⟩⟩
            case round =>
              obtain ⟨k, f, rfl, rfl, hk, hf⟩ := hrel
              rcases hf with ⟨rfl, hf⟩ | ⟨rfl, hf⟩
              · have HF := Lib.hid hf
                clear hf
                by_cases hkn : k < n4
                · obtain ⟨z, hz⟩ : ∃ z, z4[k]? = some z := ⟨_, List.getElem?_eq_getElem (by have := HP.out.1; omega)⟩
                  obtain ⟨b, off, rfl, hb, hc⟩ := (HP.out.below HB3.out).2.2.2.2 (by omega)
                  have x0 : w3.cell? ⟨b, off + k, none⟩ = some (.int .i64 z) := by have := hc k z hz 0 _ rfl; simpa using this
                  have HZZ := Lib.hid hz
                  clear hc hz hb
                  cases ht : timeB z
                  · have HX := Lib.hid (E0.out.trans (okC_all HZZ.out ht))
                    have CTM := Lib.hid (r1_Time z w3)
                    rw [ht] at CTM
                    clear ht
                    go_wp2_with fail
                    refine CTM.out.mono ?_
                    rintro e w' ⟨rfl, rfl⟩
                    go_wp2_with fail
                    go_round
                    case rel => exact ⟨k + 1, 1, rfl, by go_num, by omega, .inr ⟨rfl, HX.out⟩⟩
                    case measure => simp [intOf]; omega
                  · have HT := Lib.hid ht
                    have CTM := Lib.hid (r1_Time z w3)
                    rw [ht] at CTM
                    clear ht
                    go_wp2_with fail
                    refine CTM.out.mono ?_
                    rintro e w' ⟨rfl, rfl⟩
                    go_wp2_with fail
                    go_round
                    case rel => exact ⟨k + 1, 0, rfl, by go_num, by omega, .inl ⟨rfl, fun j y hj hy => by
                      by_cases q : j = k
                      · subst q
                        rw [HZZ.out] at hy
                        injection hy with hy
                        rw [← hy]; exact HT.out
                      · exact HF.out j y (by omega) hy⟩⟩
                    case measure => simp [intOf]; omega
                · have HX := Lib.hid (show FC = 0 from E0.out.trans (by
                    have : z4.all timeB = true := List.all_eq_true.2 fun z hz => by
                      obtain ⟨j, hj, e⟩ := List.getElem_of_mem hz
                      exact HF.out j z (by have := HP.out.1; omega) (by rw [List.getElem?_eq_getElem hj, e])
                    rw [this]; rfl))
                  go_wp2_with fail
                  go_meet
                  case rel => exact ⟨by rw [HX.out], rfl⟩
              · have HX := Lib.hid hf
                clear hf
                by_cases hkn : k < n4
                all_goals
                  go_wp2_with fail
                  go_meet
                  case rel => exact ⟨by rw [HX.out], rfl⟩
          · have e0 := HFC.out
            rw [if_neg hn] at e0 ⊢
            subst e0
            go_wp2_with fail
            refine wp_loop_rounds 1 ?_
            rw [rounds_succ]
            have kk : 0 < n4 ∨ ¬ 0 < n4 := by omega
            rcases kk with kk | kk
            all_goals
              go_wp2_with fail
              go_meet
              case rel => exact ⟨rfl, rfl⟩
      case rest =>
        as_aux_lemma =>
          obtain ⟨rfl, rfl⟩ := hcut
          go_upto_block 2 with fail
          go_cut [14] (fun u wx => ∃ b : Bool, u = .bool b ∧ (decide (FC = 0) && b) = FV ∧ Below w.heap.size w wx)
          case first =>
            as_aux_lemma =>
              by_cases hf0 : FC = 0
              · subst hf0
                have hn : n4 = N ∧ ∀ z ∈ z4, timeB z = true := by
                  have e0 := HFC.out
                  by_cases hn : n4 = N
                  · rw [if_pos hn] at e0
                    refine ⟨hn, fun z hz => ?_⟩
                    rcases okC_cases (z4.all timeB) with ⟨_, q⟩ | ⟨q, _⟩
                    · exact List.all_eq_true.1 q z hz
                    · omega
                  · rw [if_neg hn] at e0; omega
                obtain ⟨rfl, htm⟩ := hn
                have HTM := Lib.hid htm
                have HFW := Lib.hid (show FV = z1.all (fitB z4) by have := HFV.out; simpa using this)
                clear htm HFC HFV
                go_wp2_with fail
                go_loopw [14, 17] (fun bv kv wx => ∃ k : Nat, kv = .int .i64 k ∧ k ≤ n1 ∧ bv = .bool ((z1.take k).all (fitB z4)) ∧ Below w.heap.size w wx) (fun _ kv _ => n1 - (intOf kv).toNat)
                case atStart => exact ⟨0, rfl, by omega, rfl, HB3.out⟩
                case round =>
                  obtain ⟨k, rfl, hk, rfl, hB⟩ := hrel
                  have HB := Lib.hid hB
                  clear hB
                  by_cases d1 : k < n1
                  · obtain ⟨e, hek⟩ : ∃ e, z1[k]? = some e := ⟨_, List.getElem?_eq_getElem (by have := HZ.out.1; omega)⟩
                    obtain ⟨b1, off1, rfl, hb1, hc1⟩ := (HZ.out.below HB.out).2.2.2.2 (by omega)
                    have q0 : wr.cell? ⟨b1, off1 + k * 4, none⟩ = some (.int .i64 e.a) := hc1 k e hek 0 _ rfl
                    have q1 : wr.cell? ⟨b1, off1 + k * 4 + 1, none⟩ = some (.int .i64 e.b) := hc1 k e hek 1 _ rfl
                    have q2 : wr.cell? ⟨b1, off1 + k * 4 + 2, none⟩ = some (.int .i64 e.lo) := hc1 k e hek 2 _ rfl
                    have q3 : wr.cell? ⟨b1, off1 + k * 4 + 3, none⟩ = some (.int .i64 e.hi) := hc1 k e hek 3 _ rfl
                    have he := D7.out e (List.mem_of_getElem? hek)
                    unfold edgeB at he
                    obtain ⟨x, hx⟩ := Int.eq_ofNat_of_zero_le he.1
                    obtain ⟨y, hy⟩ := Int.eq_ofNat_of_zero_le he.2.2.1
                    rw [hx] at q0
                    rw [hy] at q1
                    obtain ⟨b2, off2, rfl, hb2, hc2⟩ := (HP.out.below HB.out).2.2.2.2 (by omega)
                    obtain ⟨vx, hvx⟩ : ∃ v, z4[x]? = some v := ⟨_, List.getElem?_eq_getElem (by have := HP.out.1; omega)⟩
                    obtain ⟨vy, hvy⟩ : ∃ v, z4[y]? = some v := ⟨_, List.getElem?_eq_getElem (by have := HP.out.1; omega)⟩
                    have p0 : wr.cell? ⟨b2, off2 + x, none⟩ = some (.int .i64 vx) := by have := hc2 x vx hvx 0 _ rfl; simpa using this
                    have p1 : wr.cell? ⟨b2, off2 + y, none⟩ = some (.int .i64 vy) := by have := hc2 y vy hvy 0 _ rfl; simpa using this
                    have tx := timeB_iff.1 (HTM.out vx (List.mem_of_getElem? hvx))
                    have ty := timeB_iff.1 (HTM.out vy (List.mem_of_getElem? hvy))
                    have HSN := Lib.hid (show (z1.take (k + 1)).all (fitB z4) = ((z1.take k).all (fitB z4) && (decide (e.lo ≤ vy - vx) && decide (vy - vx ≤ e.hi))) by
                      rw [all_take hek]
                      congr 1
                      unfold fitB
                      rw [hx, hy]
                      simp [List.getD, hvx, hvy])
                    have x1 : (0 : Int) ≤ (x : Int) := by omega
                    have x2 : (x : Int) < (n4 : Int) := by omega
                    have x3 : (0 : Int) ≤ (y : Int) := by omega
                    have x4 : (y : Int) < (n4 : Int) := by omega
                    have x5 : (0 : Int) ≤ (k : Int) := by omega
                    have x6 : (k : Int) < (n1 : Int) := by omega
                    have Y2 := Lib.hid (IntWalk.i64_in (vy - vx) (by omega))
                    obtain ⟨elo, hlo⟩ : ∃ v, e.lo = v := ⟨_, rfl⟩
                    obtain ⟨ehi, hhi⟩ : ∃ v, e.hi = v := ⟨_, rfl⟩
                    rw [hlo] at q2 HSN
                    rw [hhi] at q3 HSN
                    obtain ⟨p, hp⟩ : ∃ p, (z1.take k).all (fitB z4) = p := ⟨_, rfl⟩
                    rw [hp] at HSN ⊢
                    clear hx hy he hc1 hc2 hvx hvy hek hlo hhi hp
                    have y2 := Y2.out
                    go_wp2_with fail
                    go_region
                    clear y2
                    obtain ⟨dd, hdd⟩ : ∃ d, vy - vx = d := ⟨_, rfl⟩
                    rw [hdd] at HSN ⊢
                    clear hdd Y2
                    have hbr : p = false ∨ (p = true ∧ dd < elo) ∨ (p = true ∧ elo ≤ dd ∧ ehi < dd) ∨ (p = true ∧ elo ≤ dd ∧ dd ≤ ehi) := by
                      cases p
                      · exact .inl rfl
                      · right
                        rcases Int.lt_or_le dd elo with h | h
                        · exact .inl ⟨rfl, h⟩
                        · rcases Int.lt_or_le ehi dd with h' | h'
                          · exact .inr (.inl ⟨rfl, h, h'⟩)
                          · exact .inr (.inr ⟨rfl, h, h'⟩)
                    rcases hbr with rfl | ⟨rfl, t1⟩ | ⟨rfl, t1, t2⟩ | ⟨rfl, t1, t2⟩
                    · as_aux_lemma =>
                        have HV := Lib.hid (HSN.out.trans (Bool.false_and _))
                        go_wp2_with fail
                        go_roundw
                        case rel => exact ⟨k + 1, by go_num, by omega, by rw [HV.out], HB.out.drew⟩
                        case measure => simp [intOf]; omega
                    · as_aux_lemma =>
                        have HV := Lib.hid (show (z1.take (k + 1)).all (fitB z4) = false by rw [HSN.out, decide_eq_false (p := elo ≤ dd) (by omega)]; rfl)
                        go_wp2_with fail
                        go_roundw
                        case rel => exact ⟨k + 1, by go_num, by omega, by rw [HV.out], HB.out.drew⟩
                        case measure => simp [intOf]; omega
                    · as_aux_lemma =>
                        have HV := Lib.hid (show (z1.take (k + 1)).all (fitB z4) = false by rw [HSN.out, decide_eq_false (p := dd ≤ ehi) (by omega), Bool.and_false]; rfl)
                        go_wp2_with fail
                        go_roundw
                        case rel => exact ⟨k + 1, by go_num, by omega, by rw [HV.out, decide_eq_false (show ¬ dd ≤ ehi by omega)], HB.out.drew⟩
                        case measure => simp [intOf]; omega
                    · as_aux_lemma =>
                        have HV := Lib.hid (show (z1.take (k + 1)).all (fitB z4) = true by rw [HSN.out, decide_eq_true t1, decide_eq_true t2]; rfl)
                        go_wp2_with fail
                        go_roundw
                        case rel => exact ⟨k + 1, by go_num, by omega, by rw [HV.out], HB.out.drew⟩
                        case measure => simp [intOf]; omega
                  · have HV := Lib.hid (show (z1.take k).all (fitB z4) = FV by rw [HFW.out, List.take_of_length_le (by have := HZ.out.1; omega)])
                    go_wp2_with fail
                    go_meet
                    case rel => exact ⟨_, rfl, by rw [HV.out]; simp, HB.out⟩
              · have hf1 : (FC == 0) = false := by simpa using hf0
                have HFW := Lib.hid (show (decide (FC = 0) && true) = FV by rw [HFV.out, decide_eq_false hf0]; rfl)
                clear hf0 HFC HFV
                go_wp2_with fail
                refine wp_loop_rounds 1 ?_
                rw [rounds_succ]
                have kk : 0 < n1 ∨ ¬ 0 < n1 := by omega
                rcases kk with kk | kk
                all_goals
                  go_wp2_with fail
                  go_meet
                  case rel => exact ⟨true, rfl, HFW.out, HB3.out⟩
          case rest =>
            as_aux_lemma =>
              obtain ⟨fb, rfl, hfb, hB4⟩ := hcut
              have HFB := Lib.hid hfb
              have HB4 := Lib.hid hB4
              clear hfb hB4 HFC HFV HB1 HB2 HB3
              obtain ⟨w4, rfl⟩ : ∃ w4, w4 = wc := ⟨_, rfl⟩
              go_wp2_with fail
              refine (CF.out _ HB4.out).mono ?_
              rintro e w5 ⟨rfl, hb5⟩
              have HB5 := Lib.hid (HB4.out.trans (hb5.mono HB4.out.size))
              clear hb5
              go_upto_region 19 with fail
              go_cut [21] (fun u wx => u = .bool true ∧ Below w.heap.size w wx)
              case first =>
                as_aux_lemma =>
                  go_wp2_with fail
                  refine (Error_any FC FC _ (HG.out.below HB5.out)).mono ?_
                  rintro e w6 ⟨rfl, hb6⟩
                  have HB6 := Lib.hid (HB5.out.trans (hb6.mono HB5.out.size))
                  clear hb6
                  have rr : (FC == FC) = true := by simp
                  rw [rr]
                  clear rr
                  by_cases hf0 : FC = 0
                  · subst hf0
                    obtain rfl : fb = FV := by have := HFB.out; simpa using this
                    clear HFB
                    have ff : (fb == fb) = true := by simp
                    go_wp2_with fail
                    go_meet
                    case rel => exact ⟨rfl, HB6.out⟩
                  · have hf1 : (FC == 0) = false := by simpa using hf0
                    obtain rfl : FV = false := by have := HFB.out; rw [decide_eq_false hf0] at this; exact this.symm
                    clear HFB hf0
                    go_wp2_with fail
                    go_meet
                    case rel => exact ⟨rfl, HB6.out⟩
              case rest =>
                as_aux_lemma =>
                  obtain ⟨rfl, hB6⟩ := hcut
                  have HB6 := Lib.hid hB6
                  clear hB6 HB4 HB5 HFB CF
                  obtain ⟨w6, rfl⟩ : ∃ w6, w6 = wc := ⟨_, rfl⟩
                  go_upto_if 142 with fail
                  go_cut [13, 22, 23] (fun f d h wx => TightC N z1 f d h wx ∧ Below w.heap.size w wx)
                  case first =>
                    as_aux_lemma =>
                      go_wp2_with fail
                      refine (CT.out _ HB6.out).mono ?_
                      rintro e w7 (⟨hs, rfl, hb7⟩ | ⟨hs, D, H, ta, tb, tc, td, rfl, hT, hbd, hM1, hM2, hb7⟩)
                      · have HS := Lib.hid hs
                        have HB7 := Lib.hid (HB6.out.trans (hb7.mono HB6.out.size))
                        clear hs hb7
                        go_wp2_with fail
                        go_meet
                        case rel => exact ⟨.inl ⟨HS.out, rfl, rfl, rfl⟩, HB7.out⟩
                      · have HS := Lib.hid (show TightC N z1 (.int .i64 0) (.slice ta N tc) (.slice tb N td) w7 from .inr ⟨hs, rfl, D, H, ta, tb, tc, td, rfl, rfl, hT, hbd, hM1, hM2⟩)
                        have HB7 := Lib.hid (HB6.out.trans (hb7.mono HB6.out.size))
                        clear hs hb7 hT hbd hM1 hM2
                        go_wp2_with fail
                        go_meet
                        case rel => exact ⟨HS.out, HB7.out⟩
                  case rest =>
                    obtain ⟨hT, hB7⟩ := hcut
                    have HT := Lib.hid hT
                    have HB7 := Lib.hid hB7
                    clear hT hB7 HB6
                    obtain ⟨w7, rfl⟩ : ∃ w7, w7 = wc := ⟨_, rfl⟩
                    obtain ⟨NB, hNB⟩ : ∃ b, (nodeB N a2 && nodeB N a3) = b := ⟨_, rfl⟩
                    have HNB := Lib.hid hNB
                    clear hNB
                    rcases HT.out with ⟨hs, rfl, rfl, rfl⟩ | ⟨hs, rfl, D, H, ta, tb, tc, td, rfl, rfl, hTL, hbd, hM1, hM2⟩
                    · as_aux_lemma =>
                        have HS := Lib.hid hs
                        clear hs HT
                        go_wp2_with fail
                        refine wp_loop_rounds 1 ?_
                        rw [rounds_succ]
                        go_wp2_with fail
                        refine (CA.out _ HB7.out).mono ?_
                        rintro e wa ⟨A, n, c, B, m, d, k, rfl, hba, hk⟩
                        obtain rfl : k = 7 := by
                          rcases hk with ⟨_, h⟩ | ⟨h, _⟩
                          · exact h
                          · exact absurd HS.out h
                        have HBa := Lib.hid (HB7.out.trans (hba.mono HB7.out.size))
                        clear hba hk
                        rw [show errV 7 = .iface 53 (.int .i64 7) from rfl]
                        go_wp2_with fail
                        refine (Error_n 7 7 (by omega) _ (HG.out.below HBa.out)).mono ?_
                        rintro e w8 ⟨rfl, hb8⟩
                        have HBb := Lib.hid (HBa.out.trans (hb8.mono HBa.out.size))
                        clear hb8
                        go_upto_region 56 with fail
                        go_cut [310] (fun u wx => u = .bool (!NB) ∧ w8 = wx)
                        case first =>
                          as_aux_lemma =>
                            have ways : (NB = false ∧ a2 < 0) ∨ (NB = false ∧ ¬ a2 < 0 ∧ (N : Int) ≤ a2) ∨ (NB = false ∧ ¬ a2 < 0 ∧ ¬ (N : Int) ≤ a2 ∧ a3 < 0) ∨ (NB = false ∧ ¬ a2 < 0 ∧ ¬ (N : Int) ≤ a2 ∧ ¬ a3 < 0 ∧ (N : Int) ≤ a3) ∨ (NB = true ∧ ¬ a2 < 0 ∧ ¬ (N : Int) ≤ a2 ∧ ¬ a3 < 0 ∧ ¬ (N : Int) ≤ a3) := nodes_ways HNB.out
                            rcases ways with ⟨rfl, t1⟩ | ⟨rfl, t1, t2⟩ | ⟨rfl, t1, t2, t3⟩ | ⟨rfl, t1, t2, t3, t4⟩ | ⟨rfl, t1, t2, t3, t4⟩
                            all_goals
                              go_wp2_with fail
                              go_meet
                              case rel => exact ⟨rfl, rfl⟩

                        case rest =>
                          obtain ⟨rfl, rfl⟩ := hcut
                          cases NB

                          · as_aux_lemma =>
                              have HB8 := Lib.hid (show Below w.heap.size w (w8.alloc (.cells #[.int .i64 0, .int .i64 0] 23)) from HBb.out.alloc HBb.out.size _)
                              have hzw := HBb.out.size
                              go_wp2_with fail
                              refine (CB.out _ HB8.out).mono ?_
                              rintro e w9 ⟨x, c, rfl, hbet, hb9⟩
                              obtain ⟨rfl, rfl⟩ : c = 1 ∧ x = ⟨0, 0⟩ := bet_sunk (HC0.out) HS.out HNB.out hbet
                              have r0 : w9.cell? ⟨w8.heap.size, 0, none⟩ = some (.int .i64 0) := (hb9.cell (p := ⟨w8.heap.size, 0, none⟩) (by simp)).trans (by simp)
                              have r1 : w9.cell? ⟨w8.heap.size, 1, none⟩ = some (.int .i64 0) := (hb9.cell (p := ⟨w8.heap.size, 1, none⟩) (by simp)).trans (by simp)
                              have hz9 : w8.heap.size < w9.heap.size := by have := hb9.size; simp at this; omega
                              have HB9 := Lib.hid (HB8.out.trans (hb9.mono HB8.out.size))
                              have hz9w := HB9.out.size
                              clear hbet hb9
                              rw [show errV 1 = .iface 53 (.int .i64 1) from rfl]
                              go_wp2_with fail
                              refine (Error_n 1 1 (by omega) _ (HG.out.below (HB9.out.alloc hz9w _))).mono ?_
                              rintro e w10 ⟨rfl, hb10⟩
                              obtain ⟨hc10, hf10⟩ := bcell hb10
                              have hz10 := hb10.size
                              (try simp at hz10)
                              have HB10 := Lib.hid ((HB9.out.alloc hz9w _).trans (hb10.mono (by simp; omega)))
                              clear hb10
                              go_wp2_with fail
                              go_ret
                              exact ⟨rfl, HB10.out⟩

                          · as_aux_lemma =>
                              have HB8 := Lib.hid (show Below w.heap.size w (w8.alloc (.cells #[.int .i64 0, .int .i64 0] 23)) from HBb.out.alloc HBb.out.size _)
                              have hzw := HBb.out.size
                              go_wp2_with fail
                              refine (CB.out _ HB8.out).mono ?_
                              rintro e w9 ⟨x, c, rfl, hbet, hb9⟩
                              obtain ⟨rfl, rfl⟩ : c = 7 ∧ x = ⟨0, 0⟩ := bet_sunk (HC0.out) HS.out HNB.out hbet
                              have r0 : w9.cell? ⟨w8.heap.size, 0, none⟩ = some (.int .i64 0) := (hb9.cell (p := ⟨w8.heap.size, 0, none⟩) (by simp)).trans (by simp)
                              have r1 : w9.cell? ⟨w8.heap.size, 1, none⟩ = some (.int .i64 0) := (hb9.cell (p := ⟨w8.heap.size, 1, none⟩) (by simp)).trans (by simp)
                              have hz9 : w8.heap.size < w9.heap.size := by have := hb9.size; simp at this; omega
                              have HB9 := Lib.hid (HB8.out.trans (hb9.mono HB8.out.size))
                              have hz9w := HB9.out.size
                              clear hbet hb9
                              rw [show errV 7 = .iface 53 (.int .i64 7) from rfl]
                              go_wp2_with fail
                              refine (Error_n 7 7 (by omega) _ (HG.out.below (HB9.out.alloc hz9w _))).mono ?_
                              rintro e w10 ⟨rfl, hb10⟩
                              obtain ⟨hc10, hf10⟩ := bcell hb10
                              have hz10 := hb10.size
                              (try simp at hz10)
                              have HB10 := Lib.hid ((HB9.out.alloc hz9w _).trans (hb10.mono (by simp; omega)))
                              clear hb10
                              go_wp2_with fail
                              go_ret
                              exact ⟨rfl, HB10.out⟩

                    · have HS := Lib.hid hs
                      have HTL := Lib.hid hTL
                      have HBD := Lib.hid hbd
                      have HM1 := Lib.hid hM1
                      have HM2 := Lib.hid hM2
                      have hF : ∃ F, TimeS N D H F := time_ex D H
                      obtain ⟨F, hF⟩ := hF
                      have HF := Lib.hid hF
                      clear hs hTL hbd hM1 hM2 HT hF
                      go_upto_block 4 with fail
                      go_cut [13] (fun u wx => u = .int .i64 F ∧ w7 = wx)
                      case first =>
                        as_aux_lemma =>
                          go_wp2_with fail
                          go_loop [13, 27] (fun fv iv => ∃ (i : Nat) (f : Int), fv = .int .i64 f ∧ iv = .int .i64 i ∧ i ≤ N ∧ ((f = 0 ∧ ∀ a b, a < i → b < N → H a b = true → timeB (D a b) = true) ∨ (f = 1 ∧ F = 1))) (fun _ iv => N - (intOf iv).toNat)
                          case atStart => exact ⟨0, 0, rfl, rfl, by omega, .inl ⟨rfl, fun a b ha => absurd ha (by omega)⟩⟩
                          case round =>
                            obtain ⟨i, f, rfl, rfl, hi, hf⟩ := hrel
                            rcases hf with ⟨rfl, hf⟩ | ⟨rfl, hf⟩
                            · have HFF := Lib.hid hf
                              clear hf
                              by_cases hin : i < N
                              · go_wp2_with fail
                                go_loop [13, 28] (fun fv kv => ∃ (k : Nat) (f : Int), fv = .int .i64 f ∧ kv = .int .i64 k ∧ k ≤ N ∧ ((f = 0 ∧ ∀ b, b < k → H i b = true → timeB (D i b) = true) ∨ (f = 1 ∧ F = 1))) (fun _ kv => N - (intOf kv).toNat)
                                case atStart => exact ⟨0, 0, rfl, rfl, by omega, .inl ⟨rfl, fun b hb => absurd hb (by omega)⟩⟩
                                case round =>
                                  obtain ⟨k, f, rfl, rfl, hk, hf⟩ := hrel
                                  rcases hf with ⟨rfl, hf⟩ | ⟨rfl, hf⟩
                                  · have HFI := Lib.hid hf
                                    clear hf
                                    by_cases hkn : k < N
                                    · obtain ⟨ba, ra, da, rfl, _, g1, g2, g3, g4, g5, g6⟩ := HM1.out.at_ hin hkn
                                      obtain ⟨bb, rb, db, rfl, _, f1, f2, f3, f4, f5, f6⟩ := HM2.out.at_ hin hkn
                                      have m0 : w7.cell? ⟨ra, k, none⟩ = some (.int .i64 (D i k)) := by have := g6 0 _ rfl; simpa using this
                                      have m1 : w7.cell? ⟨rb, k, none⟩ = some (.bool (H i k)) := by have := f6 0 _ rfl; simpa using this
                                      have CTM := Lib.hid (r1_Time (D i k) w7)
                                      have HBAD := Lib.hid (show H i k = true → timeB (D i k) = false → F = 1 from fun h1 h2 => by
                                        rcases HF.out with ⟨_, h⟩ | ⟨h, _⟩
                                        · have := h i k hin hkn h1
                                          rw [h2] at this; cases this
                                        · exact h)
                                      have HOK := Lib.hid (show (H i k = true → timeB (D i k) = true) → ∀ b, b < k + 1 → H i b = true → timeB (D i b) = true from fun h b hb hh => by
                                        by_cases q : b = k
                                        · subst q; exact h hh
                                        · exact HFI.out b (by omega) hh)
                                      obtain ⟨v, hv⟩ : ∃ v, D i k = v := ⟨_, rfl⟩
                                      have E2 : ∃ tt, timeB (D i k) = tt := ⟨_, rfl⟩
                                      obtain ⟨tt, htt⟩ := E2
                                      obtain ⟨hb, hhb⟩ : ∃ hb, H i k = hb := ⟨_, rfl⟩
                                      have E1 := Lib.hid hhb
                                      rw [hhb] at m1
                                      rw [hv] at m0 CTM htt HBAD
                                      rw [hv] at HOK
                                      have E2 := Lib.hid htt
                                      unfold maxLen at g3 f3
                                      clear g6 f6 hv htt hhb
                                      rcases (show (hb = false ∧ tt = false) ∨ (hb = false ∧ tt = true) ∨ (hb = true ∧ tt = true) ∨ (hb = true ∧ tt = false) by cases hb <;> cases tt <;> simp) with ⟨rfl, rfl⟩ | ⟨rfl, rfl⟩ | ⟨rfl, rfl⟩ | ⟨rfl, rfl⟩
                                      · have CT2 := Lib.hid (show Calls Tryd.prog 10 #[.int .i64 v] w7 fun e w' => e = .returned (.bool false) ∧ w7 = w' from by rw [← E2.out]; exact CTM.out)
                                        have HX := Lib.hid (HOK.out (fun h => by first | exact E2.out | (rw [E1.out] at h; cases h)))
                                        clear HBAD HOK CTM
                                        go_wp2_with fail
                                        refine CT2.out.mono ?_
                                        rintro e w' ⟨rfl, rfl⟩
                                        go_wp2_with fail
                                        go_round
                                        case rel => exact ⟨k + 1, 0, rfl, by go_num, by omega, .inl ⟨rfl, HX.out⟩⟩
                                        case measure => simp [intOf]; omega

                                      · have CT2 := Lib.hid (show Calls Tryd.prog 10 #[.int .i64 v] w7 fun e w' => e = .returned (.bool true) ∧ w7 = w' from by rw [← E2.out]; exact CTM.out)
                                        have HX := Lib.hid (HOK.out (fun h => by first | exact E2.out | (rw [E1.out] at h; cases h)))
                                        clear HBAD HOK CTM
                                        go_wp2_with fail
                                        refine CT2.out.mono ?_
                                        rintro e w' ⟨rfl, rfl⟩
                                        go_wp2_with fail
                                        go_round
                                        case rel => exact ⟨k + 1, 0, rfl, by go_num, by omega, .inl ⟨rfl, HX.out⟩⟩
                                        case measure => simp [intOf]; omega

                                      · have CT2 := Lib.hid (show Calls Tryd.prog 10 #[.int .i64 v] w7 fun e w' => e = .returned (.bool true) ∧ w7 = w' from by rw [← E2.out]; exact CTM.out)
                                        have HX := Lib.hid (HOK.out (fun h => by first | exact E2.out | (rw [E1.out] at h; cases h)))
                                        clear HBAD HOK CTM
                                        go_wp2_with fail
                                        refine CT2.out.mono ?_
                                        rintro e w' ⟨rfl, rfl⟩
                                        go_wp2_with fail
                                        go_round
                                        case rel => exact ⟨k + 1, 0, rfl, by go_num, by omega, .inl ⟨rfl, HX.out⟩⟩
                                        case measure => simp [intOf]; omega

                                      · have CT2 := Lib.hid (show Calls Tryd.prog 10 #[.int .i64 v] w7 fun e w' => e = .returned (.bool false) ∧ w7 = w' from by rw [← E2.out]; exact CTM.out)
                                        have HX := Lib.hid (HBAD.out E1.out E2.out)
                                        clear HBAD HOK CTM
                                        go_wp2_with fail
                                        refine CT2.out.mono ?_
                                        rintro e w' ⟨rfl, rfl⟩
                                        go_wp2_with fail
                                        go_round
                                        case rel => exact ⟨k + 1, 1, rfl, by go_num, by omega, .inr ⟨rfl, HX.out⟩⟩
                                        case measure => simp [intOf]; omega
                                    · obtain rfl : k = N := by omega
                                      have HX := Lib.hid (show ∀ a b, a < i + 1 → b < k → H a b = true → timeB (D a b) = true from fun a b ha hb hh => by
                                        by_cases q : a = i
                                        · subst q; exact HFI.out b hb hh
                                        · exact HFF.out a b (by omega) hb hh)
                                      go_wp2_with fail
                                      go_round
                                      case rel => exact ⟨i + 1, 0, rfl, by go_num, by omega, .inl ⟨rfl, HX.out⟩⟩
                                      case measure => simp [intOf]; omega
                                  · have HX := Lib.hid hf
                                    clear hf
                                    by_cases hkn : k < N
                                    all_goals
                                      go_wp2_with fail
                                      go_round
                                      case rel => exact ⟨i + 1, 1, rfl, by go_num, by omega, .inr ⟨rfl, HX.out⟩⟩
                                      case measure => simp [intOf]; omega
                              · have HX := Lib.hid (show F = 0 from by
                                  rcases HF.out with ⟨h, _⟩ | ⟨_, a, b, ha, hb, h1, h2⟩
                                  · exact h
                                  · have := HFF.out a b (by omega) hb h1
                                    rw [h2] at this; cases this)
                                go_wp2_with fail
                                go_meet
                                case rel => exact ⟨by rw [HX.out], rfl⟩
                            · have HX := Lib.hid hf
                              clear hf
                              by_cases hin : i < N
                              all_goals
                                go_wp2_with fail
                                go_meet
                                case rel => exact ⟨by rw [HX.out], rfl⟩
                      case rest =>
                        obtain ⟨rfl, rfl⟩ := hcut
                        have HAT := Lib.hid (fun w' e (h : AllP N z1 w7 w' e) => all_tell h HS.out HTL.out HF.out)
                        rcases HF.out with ⟨rfl, hF⟩ | ⟨rfl, hF⟩
                        · as_aux_lemma =>
                            have HFA := Lib.hid hF
                            clear hF HF
                            go_wp2_with fail
                            refine (CA.out _ HB7.out).mono ?_
                            rintro e wa hall
                            obtain ⟨A, n, c, B, m, d, rfl, hba, hmm⟩ := HAT.out _ _ hall
                            obtain ⟨hM3, hM4⟩ := hmm (by first | rfl | trivial)
                            have HBa := Lib.hid (HB7.out.trans (hba.mono HB7.out.size))
                            have HMM := Lib.hid (And.intro (And.intro (HM1.out.below hba) (HM2.out.below hba)) (And.intro hM3 hM4))
                            obtain rfl : N = n := hM3.1.symm
                            obtain rfl : N = m := hM4.1.symm
                            clear hba hall hmm hM3 hM4 HM1 HM2
                            go_wp2_with fail
                            refine (Error_nil 0 _ (HG.out.below HBa.out)).mono ?_
                            rintro e w8 ⟨rfl, hb8⟩
                            have HBb := Lib.hid (HBa.out.trans (hb8.mono HBa.out.size))
                            have HM1 := Lib.hid (HMM.out.1.1.below hb8)
                            have HM2 := Lib.hid (HMM.out.1.2.below hb8)
                            have HM3 := Lib.hid (HMM.out.2.1.below hb8)
                            have HM4 := Lib.hid (HMM.out.2.2.below hb8)
                            clear hb8 HMM
                            go_upto_if 205 with fail
                            go_cut [35] (fun _ wx => Below w8.heap.size w8 wx)
                            case first =>
                              as_aux_lemma =>
                                go_wp2_with fail
                                go_loopw [33] (fun iv wx => ∃ i : Nat, iv = .int .i64 i ∧ i ≤ N ∧ Below w8.heap.size w8 wx) (fun iv _ => N - (intOf iv).toNat)
                                case atStart => exact ⟨0, rfl, by omega, Below.refl _ _⟩
                                case round =>
                                  obtain ⟨i, rfl, hi, hB⟩ := hrel
                                  have HB := Lib.hid hB
                                  clear hB
                                  by_cases hin : i < N
                                  · obtain ⟨b3, r3, e3, hA3, _, s1, s2, s3, s4, s5, _⟩ := (HM3.out.below HB.out).at_ hin hin
                                    obtain ⟨b4, r4, e4, hA4, _, t1, t2, t3, t4, t5, _⟩ := (HM4.out.below HB.out).at_ hin hin
                                    subst hA3
                                    subst hA4
                                    unfold maxLen at s3 t3
                                    go_wp2_with fail
                                    go_loopw [34] (fun kv wx => ∃ k : Nat, kv = .int .i64 k ∧ k ≤ N ∧ Below w8.heap.size w8 wx) (fun kv _ => N - (intOf kv).toNat)
                                    case atStart => exact ⟨0, rfl, by omega, HB.out⟩
                                    case round =>
                                      clear s1 s2 s3 s4 s5 t1 t2 t3 t4 t5
                                      obtain ⟨k, rfl, hk, hB⟩ := hrel
                                      have HBR := Lib.hid hB
                                      have hzr := hB.size
                                      clear hB
                                      by_cases hkn : k < N
                                      · as_aux_lemma =>
                                          have HMa := Lib.hid (And.intro (HM1.out.below HBR.out) (HM2.out.below HBR.out))
                                          have HMb := Lib.hid (And.intro (HM3.out.below HBR.out) (HM4.out.below HBR.out))
                                          have HDB := Lib.hid (show H i k = true → -2000000000000000 ≤ D k i ∧ D k i ≤ 2000000000000000 from fun h => HBD.out k i hkn (tells_rev HTL.out hin hkn h))
                                          obtain ⟨bs, hbs⟩ : ∃ x, bndS D H i k = x := ⟨_, rfl⟩
                                          have HBS := Lib.hid hbs
                                          obtain ⟨lo, hlo⟩ : ∃ x, bs.lo = x := ⟨_, rfl⟩
                                          obtain ⟨hi', hhi⟩ : ∃ x, bs.hi = x := ⟨_, rfl⟩
                                          have HLO := Lib.hid (And.intro hlo hhi)
                                          clear hbs hlo hhi
                                          have k0 : (0 : Int) ≤ (k : Int) := by omega
                                          have k1 : (k : Int) < (N : Int) := by omega
                                          have k2 : (0 : Int) ≤ (i : Int) := by omega
                                          have k3 : (i : Int) < (N : Int) := by omega
                                          obtain ⟨q, hq⟩ : ∃ q, H i k = q := ⟨_, rfl⟩
                                          have HQ := Lib.hid hq
                                          clear hq
                                          obtain ⟨b2, r2, e2, hA2, _, u1', u2', u3', u4', u5', u6'⟩ := HMa.out.2.at_ hin hkn
                                          subst hA2
                                          have n1' : wr.cell? ⟨r2, k, none⟩ = some (.bool q) := by have := u6' 0 _ rfl; rw [HQ.out] at this; simpa using this
                                          unfold maxLen at u3'
                                          clear u6'
                                          go_upto_if 248 with fail
                                          go_cut [248] (fun _ wx => Blk wx wr.heap.size 23 #[.int .i64 lo, .int .i64 hi'] ∧ Below wr.heap.size wr wx)
                                          case first =>
                                            as_aux_lemma =>
                                              cases q
                                              · have hb0 : lo = 0 ∧ hi' = 0 := by
                                                  have h := HBS.out
                                                  unfold bndS at h
                                                  rw [HQ.out] at h
                                                  simp at h
                                                  have := HLO.out
                                                  rw [← h] at this
                                                  exact ⟨this.1.symm, this.2.symm⟩
                                                obtain ⟨rfl, rfl⟩ := hb0
                                                go_wp2_with fail
                                                go_meet
                                                case rel => exact ⟨Blk.new _ _ _, (by repeat (first | with_reducible exact Below.refl _ _ | (with_reducible refine Below.alloc ?_ (by first | omega | (simp; done) | (simp; omega)) _) | (with_reducible refine Below.setCell ?_ (by first | omega | (simp; done) | (simp; omega)) _) | (with_reducible refine Below.drew ?_) | (with_reducible refine below_drewN ?_ _) | (with_reducible assumption) | (with_reducible refine bel_step (by with_reducible assumption) ?_ (by first | omega | (simp; done) | (simp; omega)))))⟩
                                              · have hb0 : lo = -(D k i) ∧ hi' = D i k := by
                                                  have h := HBS.out
                                                  unfold bndS at h
                                                  rw [HQ.out] at h
                                                  simp at h
                                                  have := HLO.out
                                                  rw [← h] at this
                                                  exact ⟨this.1.symm, this.2.symm⟩
                                                have hdb := HDB.out HQ.out
                                                obtain ⟨b1, rik, dik, rfl, _, g1, g2, g3, g4, g5, g6⟩ := (HMa.out.1).at_ hin hkn
                                                obtain ⟨b1', rki, dki, hb1', _, f1, f2, f3, f4, f5, f6⟩ := (HMa.out.1).at_ hkn hin
                                                obtain rfl : b1 = b1' := by injection hb1' with h; injection h
                                                have m1 : wr.cell? ⟨rik, k, none⟩ = some (.int .i64 (D i k)) := by have := g6 0 _ rfl; simpa using this
                                                have m2 : wr.cell? ⟨rki, i, none⟩ = some (.int .i64 (D k i)) := by have := f6 0 _ rfl; simpa using this
                                                unfold maxLen at g3 f3
                                                rw [← hb0.2] at m1
                                                obtain ⟨vk, hvk⟩ : ∃ v, D k i = v := ⟨_, rfl⟩
                                                rw [hvk] at m2 hdb hb0
                                                obtain ⟨hl1, hh1⟩ := hb0
                                                subst hl1
                                                clear hh1
                                                have HY := Lib.hid (IntWalk.i64_in (-vk) (by omega))
                                                have W1 := wr.heap.size
                                                clear g6 f6 hvk
                                                go_wp2_with fail
                                                have y := HY.out
                                                go_region_held3 (fun w' => w'.cell? ⟨b1, k, none⟩ = some (.slice (some ⟨rki, 0, none⟩) N dki) ∧ w'.cell? ⟨b1, i, none⟩ = some (.slice (some ⟨rik, 0, none⟩) N dik) ∧ w'.cell? ⟨rki, i, none⟩ = some (.int .i64 vk) ∧ w'.cell? ⟨rik, k, none⟩ = some (.int .i64 hi')) (((repeat' apply And.intro) <;> exact (Below.cell (B := (wr).heap.size) (w := wr) (by repeat (first | with_reducible exact Below.refl _ _ | (with_reducible refine Below.alloc ?_ (by first | omega | (simp; done) | (simp; omega)) _) | (with_reducible refine Below.setCell ?_ (by first | omega | (simp; done) | (simp; omega)) _) | (with_reducible refine Below.drew ?_) | (with_reducible refine below_drewN ?_ _) | (with_reducible assumption) | (with_reducible refine bel_step (by with_reducible assumption) ?_ (by first | omega | (simp; done) | (simp; omega))))) (by first | omega | (simp; done) | (simp; omega))).trans (by assumption))) (fail)
                                                all_goals
                                                  clear y
                                                  go_wp2_with fail
                                                  go_meet
                                                  case rel => exact ⟨(Blk.new wr 23 #[.int .i64 (-vk), .int .i64 hi']).drew, (by repeat (first | with_reducible exact Below.refl _ _ | (with_reducible refine Below.alloc ?_ (by first | omega | (simp; done) | (simp; omega)) _) | (with_reducible refine Below.setCell ?_ (by first | omega | (simp; done) | (simp; omega)) _) | (with_reducible refine Below.drew ?_) | (with_reducible refine below_drewN ?_ _) | (with_reducible assumption) | (with_reducible refine bel_step (by with_reducible assumption) ?_ (by first | omega | (simp; done) | (simp; omega)))))⟩
                                          case rest =>
                                            obtain ⟨hbk, hbc⟩ := hcut
                                            have HBC := Lib.hid (HBR.out.trans (hbc.mono hzr))
                                            have HBK := Lib.hid hbk
                                            have HM12 := HMa.out.2.below hbc
                                            have HM34 := And.intro (HMb.out.1.below hbc) (HMb.out.2.below hbc)
                                            have HM5 := Lib.hid (And.intro HM12 HM34)
                                            have hwl : wr.heap.size < wc.heap.size := hbk.lt
                                            have z0 := hbk.cell 0
                                            have z1' := hbk.cell 1
                                            simp at z0 z1'
                                            clear hbk hbc HM12 HM34 n1' u1' u2' u3' u4' u5'
                                            obtain ⟨w9, rfl⟩ : ∃ w9, w9 = wc := ⟨_, rfl⟩
                                            obtain ⟨b2', r2, e2, hA2, _, u1', u2', u3', u4', u5', u6'⟩ := HM5.out.1.at_ hin hkn
                                            obtain rfl : b2 = b2' := by injection hA2 with h; injection h
                                            obtain ⟨b3', r3, e3, hA3, _, s1, s2, s3, s4, s5, s6⟩ := HM5.out.2.1.at_ hin hkn
                                            obtain rfl : b3 = b3' := by injection hA3 with h; injection h
                                            obtain ⟨b4', r4, e4, hA4, _, t1, t2, t3, t4, t5, t6⟩ := HM5.out.2.2.at_ hin hkn
                                            obtain rfl : b4 = b4' := by injection hA4 with h; injection h
                                            have p0 : w9.cell? ⟨r2, k, none⟩ = some (.bool q) := by have := u6' 0 _ rfl; rw [HQ.out] at this; simpa using this
                                            have p1 : w9.cell? ⟨r4, k, none⟩ = some (.bool q) := by have := t6 0 _ rfl; rw [HQ.out] at this; simpa using this
                                            have p2 : w9.cell? ⟨r3, k * 2, none⟩ = some (.int .i64 lo) := by have := s6 0 _ rfl; rw [HBS.out, HLO.out.1] at this; simpa using this
                                            have p3 : w9.cell? ⟨r3, k * 2 + 1, none⟩ = some (.int .i64 hi') := by have := s6 1 _ rfl; rw [HBS.out, HLO.out.2] at this; simpa using this
                                            unfold maxLen at u3' s3 t3
                                            clear u6' s6 t6 hA2 hA3 hA4
                                            have HQ2 := Lib.hid (show q = true ∨ q = false by cases q <;> simp)
                                            rcases HQ2.out with rfl | rfl
                                            all_goals
                                              go_wp2_with fail
                                              go_quiet (fail)
                                              go_wp2_with fail
                                              go_roundw
                                              case rel => exact ⟨k + 1, by go_num, by omega, below_drewN HBC.out _⟩
                                              case measure => simp [intOf]; omega
                                      · go_wp2_with fail
                                        go_roundw
                                        case rel => exact ⟨i + 1, by go_num, by omega, HBR.out⟩
                                        case measure => simp [intOf]; omega
                                  · go_wp2_with fail
                                    go_meet
                                    case rel => exact HB.out
                            case rest =>
                              have HBc := Lib.hid (HBb.out.trans (hcut.mono HBb.out.size))
                              have HM1 := Lib.hid (HM1.out.below hcut)
                              have HM2 := Lib.hid (HM2.out.below hcut)
                              clear hcut HM3 HM4
                              obtain ⟨w9, rfl⟩ : ∃ w9, w9 = wc := ⟨_, rfl⟩
                              go_upto_region 56 with fail
                              go_cut [310] (fun u wx => u = .bool (!NB) ∧ w9 = wx)
                              case first =>
                                as_aux_lemma =>
                                  have ways : (NB = false ∧ a2 < 0) ∨ (NB = false ∧ ¬ a2 < 0 ∧ (N : Int) ≤ a2) ∨ (NB = false ∧ ¬ a2 < 0 ∧ ¬ (N : Int) ≤ a2 ∧ a3 < 0) ∨ (NB = false ∧ ¬ a2 < 0 ∧ ¬ (N : Int) ≤ a2 ∧ ¬ a3 < 0 ∧ (N : Int) ≤ a3) ∨ (NB = true ∧ ¬ a2 < 0 ∧ ¬ (N : Int) ≤ a2 ∧ ¬ a3 < 0 ∧ ¬ (N : Int) ≤ a3) := nodes_ways HNB.out
                                  rcases ways with ⟨rfl, t1⟩ | ⟨rfl, t1, t2⟩ | ⟨rfl, t1, t2, t3⟩ | ⟨rfl, t1, t2, t3, t4⟩ | ⟨rfl, t1, t2, t3, t4⟩
                                  all_goals
                                    go_wp2_with fail
                                    go_meet
                                    case rel => exact ⟨rfl, rfl⟩
                              case rest =>
                                obtain ⟨rfl, rfl⟩ := hcut
                                cases NB
                                · as_aux_lemma =>
                                    have HB8 := Lib.hid (show Below w.heap.size w (w9.alloc (.cells #[.int .i64 0, .int .i64 0] 23)) from HBc.out.alloc HBc.out.size _)
                                    have hzw := HBc.out.size
                                    go_wp2_with fail
                                    refine (CB.out _ HB8.out).mono ?_
                                    rintro e wb ⟨x, c, rfl, hbet, hbb⟩
                                    obtain ⟨rfl, rfl⟩ : c = 1 ∧ x = ⟨0, 0⟩ := bet_off HC0.out HNB.out hbet
                                    have r0 : wb.cell? ⟨w9.heap.size, 0, none⟩ = some (.int .i64 0) := (hbb.cell (p := ⟨w9.heap.size, 0, none⟩) (by simp)).trans (by simp)
                                    have r1 : wb.cell? ⟨w9.heap.size, 1, none⟩ = some (.int .i64 0) := (hbb.cell (p := ⟨w9.heap.size, 1, none⟩) (by simp)).trans (by simp)
                                    have hz9 : w9.heap.size < wb.heap.size := by have := hbb.size; simp at this; omega
                                    have HBd := Lib.hid (HB8.out.trans (hbb.mono HB8.out.size))
                                    have hz9w := HBd.out.size
                                    clear hbet hbb
                                    rw [show errV 1 = .iface 53 (.int .i64 1) from rfl]
                                    go_wp2_with fail
                                    refine (Error_n 1 1 (by omega) _ (HG.out.below (HBd.out.alloc hz9w _))).mono ?_
                                    rintro e w10 ⟨rfl, hb10⟩
                                    obtain ⟨hc10, hf10⟩ := bcell hb10
                                    have hz10 := hb10.size
                                    (try simp at hz10)
                                    have HB10 := Lib.hid ((HBd.out.alloc hz9w _).trans (hb10.mono (by simp; omega)))
                                    clear hb10
                                    go_wp2_with fail
                                    go_ret
                                    exact ⟨rfl, HB10.out⟩
                                · as_aux_lemma =>
                                    have hn := HNB.out
                                    simp only [Bool.and_eq_true, nodeB_iff] at hn
                                    obtain ⟨⟨p1, p2⟩, p3, p4⟩ := hn
                                    obtain ⟨i, hi2⟩ := Int.eq_ofNat_of_zero_le p1
                                    obtain ⟨j, hj2⟩ := Int.eq_ofNat_of_zero_le p3
                                    have hi : i < N := by omega
                                    have hj : j < N := by omega
                                    have HBY := Lib.hid (fun x c (h : BetS N z1 a2 a3 x c) => bet_yes hi hj (by have := HBT.out x c 0 D H h HS.out HTL.out (.inl ⟨rfl, HFA.out⟩); rw [hi2, hj2] at this; exact this))
                                    subst hi2
                                    subst hj2
                                    have HDB := Lib.hid (show H i j = true → -2000000000000000 ≤ D j i ∧ D j i ≤ 2000000000000000 from fun h => HBD.out j i hj (tells_rev HTL.out hi hj h))
                                    obtain ⟨b1, rik, dik, rfl, _, g1, g2, g3, g4, g5, g6⟩ := (HM1.out).at_ hi hj
                                    obtain ⟨b1', rki, dki, hb1', _, f1, f2, f3, f4, f5, f6⟩ := (HM1.out).at_ hj hi
                                    obtain rfl : b1 = b1' := by injection hb1' with h; injection h
                                    have m1 : w9.cell? ⟨rik, j, none⟩ = some (.int .i64 (D i j)) := by have := g6 0 _ rfl; simpa using this
                                    have m2 : w9.cell? ⟨rki, i, none⟩ = some (.int .i64 (D j i)) := by have := f6 0 _ rfl; simpa using this
                                    unfold maxLen at g3 f3
                                    obtain ⟨b2, r2, e2, rfl, _, u1', u2', u3', u4', u5', u6'⟩ := HM2.out.at_ hi hj
                                    obtain ⟨q, hq⟩ : ∃ q, H i j = q := ⟨_, rfl⟩
                                    have HQ := Lib.hid hq
                                    have n1' : w9.cell? ⟨r2, j, none⟩ = some (.bool q) := by have := u6' 0 _ rfl; rw [HQ.out] at this; simpa using this
                                    unfold maxLen at u3'
                                    obtain ⟨vi, hvi⟩ : ∃ v, D i j = v := ⟨_, rfl⟩
                                    obtain ⟨vj, hvj⟩ : ∃ v, D j i = v := ⟨_, rfl⟩
                                    rw [hvi] at m1
                                    rw [hvj] at m2
                                    rw [hvi, hvj, hq] at HBY
                                    rw [hvj, hq] at HDB
                                    have hzw := HBc.out.size
                                    clear g6 f6 u6' hvi hvj hq p1 p2 p3 p4
                                    cases q
                                    · as_aux_lemma =>
                                        clear HDB
                                        have HB8 := Lib.hid (show Below w.heap.size w (w9.alloc (.cells #[.int .i64 0, .int .i64 0] 23)) from HBc.out.alloc HBc.out.size _)
                                        go_wp2_with fail
                                        refine (CB.out _ HB8.out).mono ?_
                                        rintro e wb ⟨x, c, rfl, hbet, hbb⟩
                                        obtain ⟨rfl, rfl⟩ : c = 5 ∧ x = ⟨0, 0⟩ := by
                                          rcases HBY.out x c hbet with ⟨_, h⟩ | ⟨h, _⟩
                                          · exact h
                                          · cases h
                                        have r0 : wb.cell? ⟨w9.heap.size, 0, none⟩ = some (.int .i64 0) := (hbb.cell (p := ⟨w9.heap.size, 0, none⟩) (by simp)).trans (by simp)
                                        have r1 : wb.cell? ⟨w9.heap.size, 1, none⟩ = some (.int .i64 0) := (hbb.cell (p := ⟨w9.heap.size, 1, none⟩) (by simp)).trans (by simp)
                                        have hz9 : w9.heap.size < wb.heap.size := by have := hbb.size; simp at this; omega
                                        have HBd := Lib.hid (HB8.out.trans (hbb.mono HB8.out.size))
                                        have hz9w := HBd.out.size
                                        clear hbet hbb
                                        rw [show errV 5 = .iface 53 (.int .i64 5) from rfl]
                                        go_wp2_with fail
                                        refine (Error_n 5 5 (by omega) _ (HG.out.below (HBd.out.alloc hz9w _))).mono ?_
                                        rintro e w10 ⟨rfl, hb10⟩
                                        obtain ⟨hc10, hf10⟩ := bcell hb10
                                        have hz10 := hb10.size
                                        (try simp at hz10)
                                        have HB10 := Lib.hid ((HBd.out.alloc hz9w _).trans (hb10.mono (by simp; omega)))
                                        clear hb10
                                        go_wp2_with fail
                                        go_ret
                                        exact ⟨rfl, HB10.out⟩
                                    · as_aux_lemma =>
                                        have hdb := HDB.out (by first | rfl | trivial)
                                        have HY := Lib.hid (IntWalk.i64_in (-vj) (by omega))
                                        have k0 : (0 : Int) ≤ (i : Int) := by omega
                                        have k1 : (i : Int) < (N : Int) := by omega
                                        have k2 : (0 : Int) ≤ (j : Int) := by omega
                                        have k3 : (j : Int) < (N : Int) := by omega
                                        go_upto_if 325 with fail
                                        go_cut [11] (fun u wx => u = .int .i64 0 ∧ Blk wx w9.heap.size 23 #[.int .i64 (-vj), .int .i64 vi] ∧ Below w9.heap.size w9 wx)
                                        case first =>
                                          as_aux_lemma =>
                                            go_wp2_with fail
                                            have y := HY.out
                                            go_region_held3 (fun w' => w'.cell? ⟨b1, j, none⟩ = some (.slice (some ⟨rki, 0, none⟩) N dki) ∧ w'.cell? ⟨b1, i, none⟩ = some (.slice (some ⟨rik, 0, none⟩) N dik) ∧ w'.cell? ⟨rki, i, none⟩ = some (.int .i64 vj) ∧ w'.cell? ⟨rik, j, none⟩ = some (.int .i64 vi)) (((repeat' apply And.intro) <;> exact (Below.cell (B := (w9).heap.size) (w := w9) (by repeat (first | with_reducible exact Below.refl _ _ | (with_reducible refine Below.alloc ?_ (by first | omega | (simp; done) | (simp; omega)) _) | (with_reducible refine Below.setCell ?_ (by first | omega | (simp; done) | (simp; omega)) _) | (with_reducible refine Below.drew ?_) | (with_reducible refine below_drewN ?_ _) | (with_reducible assumption) | (with_reducible refine bel_step (by with_reducible assumption) ?_ (by first | omega | (simp; done) | (simp; omega))))) (by first | omega | (simp; done) | (simp; omega))).trans (by assumption))) (fail)
                                            all_goals
                                              clear y
                                              go_wp2_with fail
                                              go_meet
                                              case rel => exact ⟨rfl, (Blk.new w9 23 #[.int .i64 (-vj), .int .i64 vi]).drew, (by repeat (first | with_reducible exact Below.refl _ _ | (with_reducible refine Below.alloc ?_ (by first | omega | (simp; done) | (simp; omega)) _) | (with_reducible refine Below.setCell ?_ (by first | omega | (simp; done) | (simp; omega)) _) | (with_reducible refine Below.drew ?_) | (with_reducible refine below_drewN ?_ _) | (with_reducible assumption) | (with_reducible refine bel_step (by with_reducible assumption) ?_ (by first | omega | (simp; done) | (simp; omega)))))⟩
                                        case rest =>
                                          obtain ⟨rfl, hbk, hbc⟩ := hcut
                                          have HB8 := Lib.hid (HBc.out.trans (hbc.mono HBc.out.size))
                                          have HBK := Lib.hid hbk
                                          have hwl : w9.heap.size < wc.heap.size := hbk.lt
                                          clear hbk hbc m1 m2 n1' g1 g2 g3 g4 g5 f1 f2 f3 f4 f5 u1' u2' u3' u4' u5'
                                          obtain ⟨wd, rfl⟩ : ∃ wd, wd = wc := ⟨_, rfl⟩
                                          go_wp2_with fail
                                          refine (CB.out _ HB8.out).mono ?_
                                          rintro e wb ⟨x, c, rfl, hbet, hbb⟩
                                          obtain ⟨rfl, rfl⟩ : c = 0 ∧ x = ⟨-vj, vi⟩ := by
                                            rcases HBY.out x c hbet with ⟨h, _⟩ | ⟨_, h⟩
                                            · cases h
                                            · exact h
                                          have HBK2 := HBK.out.below hbb hwl
                                          have r0 := HBK2.cell 0
                                          have r1 := HBK2.cell 1
                                          simp at r0 r1
                                          have hz9 : w9.heap.size < wb.heap.size := HBK2.lt
                                          have HBd := Lib.hid (HB8.out.trans (hbb.mono HB8.out.size))
                                          have hz9w := HBd.out.size
                                          clear hbet hbb HBK2
                                          go_wp2_with fail
                                          refine (Error_nil 0 _ (HG.out.below (HBd.out.alloc hz9w _))).mono ?_
                                          rintro e w10 ⟨rfl, hb10⟩
                                          obtain ⟨hc10, hf10⟩ := bcell hb10
                                          have hz10 := hb10.size
                                          (try simp at hz10)
                                          have HB10 := Lib.hid ((HBd.out.alloc hz9w _).trans (hb10.mono (by simp; omega)))
                                          clear hb10
                                          go_wp2_with fail
                                          go_ret
                                          exact ⟨rfl, HB10.out⟩
                        · as_aux_lemma =>
                            clear hF
                            go_wp2_with fail
                            refine (CA.out _ HB7.out).mono ?_
                            rintro e wa hall
                            obtain ⟨A, n, c, B, m, d, rfl, hba, _⟩ := HAT.out _ _ hall
                            have HBa := Lib.hid (HB7.out.trans (hba.mono HB7.out.size))
                            clear hba hall
                            rw [show errV 1 = .iface 53 (.int .i64 1) from rfl]
                            go_wp2_with fail
                            refine (Error_n 1 1 (by omega) _ (HG.out.below HBa.out)).mono ?_
                            rintro e w8 ⟨rfl, hb8⟩
                            have HBb := Lib.hid (HBa.out.trans (hb8.mono HBa.out.size))
                            clear hb8
                            go_upto_region 56 with fail
                            go_cut [310] (fun u wx => u = .bool (!NB) ∧ w8 = wx)
                            case first =>
                              as_aux_lemma =>
                                have ways : (NB = false ∧ a2 < 0) ∨ (NB = false ∧ ¬ a2 < 0 ∧ (N : Int) ≤ a2) ∨ (NB = false ∧ ¬ a2 < 0 ∧ ¬ (N : Int) ≤ a2 ∧ a3 < 0) ∨ (NB = false ∧ ¬ a2 < 0 ∧ ¬ (N : Int) ≤ a2 ∧ ¬ a3 < 0 ∧ (N : Int) ≤ a3) ∨ (NB = true ∧ ¬ a2 < 0 ∧ ¬ (N : Int) ≤ a2 ∧ ¬ a3 < 0 ∧ ¬ (N : Int) ≤ a3) := nodes_ways HNB.out
                                rcases ways with ⟨rfl, t1⟩ | ⟨rfl, t1, t2⟩ | ⟨rfl, t1, t2, t3⟩ | ⟨rfl, t1, t2, t3, t4⟩ | ⟨rfl, t1, t2, t3, t4⟩
                                all_goals
                                  go_wp2_with fail
                                  go_meet
                                  case rel => exact ⟨rfl, rfl⟩

                            case rest =>
                              obtain ⟨rfl, rfl⟩ := hcut
                              cases NB

                              · as_aux_lemma =>
                                  have HB8 := Lib.hid (show Below w.heap.size w (w8.alloc (.cells #[.int .i64 0, .int .i64 0] 23)) from HBb.out.alloc HBb.out.size _)
                                  have hzw := HBb.out.size
                                  go_wp2_with fail
                                  refine (CB.out _ HB8.out).mono ?_
                                  rintro e w9 ⟨x, c, rfl, hbet, hb9⟩
                                  obtain ⟨rfl, rfl⟩ : c = 1 ∧ x = ⟨0, 0⟩ := bet_one (HBT.out _ _ _ _ _ hbet HS.out HTL.out HF.out)
                                  have r0 : w9.cell? ⟨w8.heap.size, 0, none⟩ = some (.int .i64 0) := (hb9.cell (p := ⟨w8.heap.size, 0, none⟩) (by simp)).trans (by simp)
                                  have r1 : w9.cell? ⟨w8.heap.size, 1, none⟩ = some (.int .i64 0) := (hb9.cell (p := ⟨w8.heap.size, 1, none⟩) (by simp)).trans (by simp)
                                  have hz9 : w8.heap.size < w9.heap.size := by have := hb9.size; simp at this; omega
                                  have HB9 := Lib.hid (HB8.out.trans (hb9.mono HB8.out.size))
                                  have hz9w := HB9.out.size
                                  clear hbet hb9
                                  rw [show errV 1 = .iface 53 (.int .i64 1) from rfl]
                                  go_wp2_with fail
                                  refine (Error_n 1 1 (by omega) _ (HG.out.below (HB9.out.alloc hz9w _))).mono ?_
                                  rintro e w10 ⟨rfl, hb10⟩
                                  obtain ⟨hc10, hf10⟩ := bcell hb10
                                  have hz10 := hb10.size
                                  (try simp at hz10)
                                  have HB10 := Lib.hid ((HB9.out.alloc hz9w _).trans (hb10.mono (by simp; omega)))
                                  clear hb10
                                  go_wp2_with fail
                                  go_ret
                                  exact ⟨rfl, HB10.out⟩

                              · as_aux_lemma =>
                                  have HB8 := Lib.hid (show Below w.heap.size w (w8.alloc (.cells #[.int .i64 0, .int .i64 0] 23)) from HBb.out.alloc HBb.out.size _)
                                  have hzw := HBb.out.size
                                  go_wp2_with fail
                                  refine (CB.out _ HB8.out).mono ?_
                                  rintro e w9 ⟨x, c, rfl, hbet, hb9⟩
                                  obtain ⟨rfl, rfl⟩ : c = 1 ∧ x = ⟨0, 0⟩ := bet_one (HBT.out _ _ _ _ _ hbet HS.out HTL.out HF.out)
                                  have r0 : w9.cell? ⟨w8.heap.size, 0, none⟩ = some (.int .i64 0) := (hb9.cell (p := ⟨w8.heap.size, 0, none⟩) (by simp)).trans (by simp)
                                  have r1 : w9.cell? ⟨w8.heap.size, 1, none⟩ = some (.int .i64 0) := (hb9.cell (p := ⟨w8.heap.size, 1, none⟩) (by simp)).trans (by simp)
                                  have hz9 : w8.heap.size < w9.heap.size := by have := hb9.size; simp at this; omega
                                  have HB9 := Lib.hid (HB8.out.trans (hb9.mono HB8.out.size))
                                  have hz9w := HB9.out.size
                                  clear hbet hb9
                                  rw [show errV 1 = .iface 53 (.int .i64 1) from rfl]
                                  go_wp2_with fail
                                  refine (Error_n 1 1 (by omega) _ (HG.out.below (HB9.out.alloc hz9w _))).mono ?_
                                  rintro e w10 ⟨rfl, hb10⟩
                                  obtain ⟨hc10, hf10⟩ := bcell hb10
                                  have hz10 := hb10.size
                                  (try simp at hz10)
                                  have HB10 := Lib.hid ((HB9.out.alloc hz9w _).trans (hb10.mono (by simp; omega)))
                                  clear hb10
                                  go_wp2_with fail
                                  go_ret
                                  exact ⟨rfl, HB10.out⟩
  · as_aux_lemma =>
      have hfc : fitsC a0 z1 z4 = edgesC a0 z1 := by unfold fitsC; rw [if_neg c0]
      have hfv : fitsV a0 z1 z4 = false := by unfold fitsV; rw [hfc, decide_eq_false c0]; rfl
      rw [hfc, hfv] at CF
      have HBE := Lib.hid (show ∀ x c, BetS a0 z1 a2 a3 x c → c = edgesC a0 z1 ∧ x = ⟨0, 0⟩ from fun x c h => by
        rcases h with ⟨_, h⟩ | ⟨h, _⟩ | ⟨h, _⟩
        · exact h
        · exact absurd h c0
        · exact absurd h c0)
      have CA := Lib.hid (show ∀ w', Below w.heap.size w w' → Calls Tryd.prog 13 #[.int .i64 a0, .slice a1 n1 c1] w' fun e w'' => ∃ A n c B m d, e = .returned (.tuple #[.slice A n c, .slice B m d, errV (edgesC a0 z1)]) ∧ Below w'.heap.size w' w'' from fun w' hb =>
        (bounds_All_f a0 a1 n1 c1 z1 w' (HZ.out.below hb)).mono fun e w'' ⟨A, n, c, B, m, d, k, he, hb, hk⟩ => by
          rcases hk with ⟨_, rfl⟩ | ⟨h, _⟩
          · exact ⟨A, n, c, B, m, d, he, hb⟩
          · exact absurd h c0)
      have CBE := Lib.hid (fun w' (hb : Below w.heap.size w w') => (CB.out w' hb).mono (R' := fun e w'' => e = .returned (.tuple #[.agg #[.int .i64 0, .int .i64 0], errV (edgesC a0 z1)]) ∧ Below w'.heap.size w' w'') fun e w'' ⟨x, c, he, hbet, hb⟩ => by
        obtain ⟨rfl, rfl⟩ := HBE.out x c hbet
        exact ⟨he, hb⟩)
      obtain ⟨EE, hEE⟩ : ∃ v, edgesC a0 z1 = v := ⟨_, rfl⟩
      rw [hEE] at CE CK CF CA CBE c0
      rw [errV_ne c0] at CK CF CA CBE
      have HE := Lib.hid c0
      have e0 : (EE == 0) = false := by simpa using c0
      have e9 : decide (EE = 0) = false := by simpa using c0
      clear CB HBE hfc hfv hEE
      go_enter Tryd.func4, Tryd.ntmps4
      go_wp2_with fail
      refine CE.out.mono ?_
      rintro e w1 ⟨rfl, hb1⟩
      have HB1 := Lib.hid hb1
      clear hb1
      go_wp2_with fail
      refine (CK.out _ HB1.out).mono ?_
      rintro e w2 ⟨rfl, hb2⟩
      have HB2 := Lib.hid (HB1.out.trans (hb2.mono HB1.out.size))
      clear hb2
      go_wp2_with fail
      refine (Error_n EE EE HE.out _ (HG.out.below HB2.out)).mono ?_
      rintro e w3 ⟨rfl, hb3⟩
      have HB3 := Lib.hid (HB2.out.trans (hb3.mono HB2.out.size))
      clear hb3
      have rr : (EE == EE) = true := by simp
      rw [rr]
      clear rr
      go_upto_block 0 with fail
      go_cut [13] (fun u wx => u = .int .i64 EE ∧ w3 = wx)
      case first =>
        as_aux_lemma =>
          go_wp2_with fail
          refine wp_loop_rounds 1 ?_
          rw [rounds_succ]
          have kk : 0 < n4 ∨ ¬ 0 < n4 := by omega
          rcases kk with kk | kk
          all_goals
            go_wp2_with fail
            go_meet
            case rel => exact ⟨rfl, rfl⟩
      case rest =>
        obtain ⟨rfl, rfl⟩ := hcut
        go_upto_block 2 with fail
        go_cut [14] (fun u wx => u = .bool true ∧ w3 = wx)
        case first =>
          as_aux_lemma =>
            go_wp2_with fail
            refine wp_loop_rounds 1 ?_
            rw [rounds_succ]
            have kk : 0 < n1 ∨ ¬ 0 < n1 := by omega
            rcases kk with kk | kk
            all_goals
              go_wp2_with fail
              go_meet
              case rel => exact ⟨rfl, rfl⟩
        case rest =>
          obtain ⟨rfl, rfl⟩ := hcut
          go_wp2_with fail
          refine (CF.out _ HB3.out).mono ?_
          rintro e w4 ⟨rfl, hb4⟩
          have HB4 := Lib.hid (HB3.out.trans (hb4.mono HB3.out.size))
          clear hb4
          go_wp2_with fail
          refine (Error_n EE EE HE.out _ (HG.out.below HB4.out)).mono ?_
          rintro e w5 ⟨rfl, hb5⟩
          have HB5 := Lib.hid (HB4.out.trans (hb5.mono HB4.out.size))
          clear hb5
          have rr : (EE == EE) = true := by simp
          rw [rr]
          clear rr
          go_upto_block 4 with fail
          go_cut [13] (fun u wx => u = .int .i64 EE ∧ w5 = wx)
          case first =>
            as_aux_lemma =>
              go_wp2_with fail
              refine wp_loop_rounds 1 ?_
              rw [rounds_succ]
              have kk : 0 < a0 ∨ ¬ 0 < a0 := by omega
              rcases kk with kk | kk
              all_goals
                go_wp2_with fail
                go_meet
                case rel => exact ⟨rfl, rfl⟩
          case rest =>
            obtain ⟨rfl, rfl⟩ := hcut
            go_wp2_with fail
            refine (CA.out _ HB5.out).mono ?_
            rintro e w6 ⟨A, n, c, B, m, d, rfl, hb6⟩
            have HB6 := Lib.hid (HB5.out.trans (hb6.mono HB5.out.size))
            clear hb6
            go_wp2_with fail
            refine (Error_n EE EE HE.out _ (HG.out.below HB6.out)).mono ?_
            rintro e w7 ⟨rfl, hb7⟩
            have HB7 := Lib.hid (HB6.out.trans (hb7.mono HB6.out.size))
            clear hb7
            have rr : (EE == EE) = true := by simp
            rw [rr]
            clear rr
            have HB8 := Lib.hid (show Below w.heap.size w (w7.alloc (.cells #[.int .i64 0, .int .i64 0] 23)) from HB7.out.alloc HB7.out.size _)
            have hzw := HB7.out.size
            go_wp2_with fail
            refine (CBE.out _ HB8.out).mono ?_
            rintro e wb ⟨rfl, hbb⟩
            have r0 : wb.cell? ⟨w7.heap.size, 0, none⟩ = some (.int .i64 0) := (hbb.cell (p := ⟨w7.heap.size, 0, none⟩) (by simp)).trans (by simp)
            have r1 : wb.cell? ⟨w7.heap.size, 1, none⟩ = some (.int .i64 0) := (hbb.cell (p := ⟨w7.heap.size, 1, none⟩) (by simp)).trans (by simp)
            have hz9 : w7.heap.size < wb.heap.size := by have := hbb.size; simp at this; omega
            have HBd := Lib.hid (HB8.out.trans (hbb.mono HB8.out.size))
            have hz9w := HBd.out.size
            clear hbb
            go_wp2_with fail
            refine (Error_n EE EE HE.out _ (HG.out.below (HBd.out.alloc hz9w _))).mono ?_
            rintro e w10 ⟨rfl, hb10⟩
            obtain ⟨hc10, hf10⟩ := bcell hb10
            have hz10 := hb10.size
            (try simp at hz10)
            have HB10 := Lib.hid ((HBd.out.alloc hz9w _).trans (hb10.mono (by simp; omega)))
            clear hb10
            have rr : (EE == EE) = true := by simp
            rw [rr]
            clear rr
            go_wp2_with fail
            go_ret
            exact ⟨rfl, HB10.out⟩

set_option maxRecDepth 100000 in
theorem lifted (os : Os) (started : os.Started) (H : Type) (enc : TypeId × Value → H) :
    ReturnsInHanded {} Tryd.checked os 4 .any (fun w args => (Rows.boundsTellSpec.pre enc Tryd.prog Tryd.f4 [] false w args ∧ laidMetH Tryd.prog laidList w) ∧ sizedMet enc Tryd.prog Tryd.f4 (OpenSpec.ofChange Rows.boundsTellSpec) false w args)
      (Rows.boundsTellSpec.post enc Tryd.prog Tryd.f4 false true false false) := by
  refine returnsInHanded_of_change_and (C := Tryd.checked) (X := fun w _ => laidMetH Tryd.prog laidList w) (fun _ _ _ hh h => h.of_heap hh) own started (by kernel_rfl) Tryd.func4
    (ChangeSpec.witness_at (enc := enc) (C := Tryd.checked) (os := os) (X := fun w _ => laidMetH Tryd.prog laidList w) false (laidWorld os) #[.int .i64 0, .slice none 0 0, .int .i64 0, .int .i64 0, .slice none 0 0] 8 rfl (by kernel_rfl) (by kernel_rfl) (by kernel_rfl) (by kernel_rfl) (by kernel_rfl) (laidWorld_met os _)) ?_
  intro W base args ds gs before hval0 hW hcnd hreach hL _
  have hval : ∀ (j : Nat) t v, Tryd.f4.params[j]? = some t → args[j]? = some v → Value.okWide Tryd.prog W .any base t v := hval0
  have hW' := hW
  obtain ⟨p, q, hA0, hV, rfl, hfz, hnd⟩ := hW
  have hA : DataW.TrodAll enc Tryd.prog W 0 (fun _ => true) true Tryd.f4.params.toList args.toList ds p := hA0
  rw [Tryd.params4] at hA hval
  obtain ⟨v0, vs0, d0, ds0, p0, q0, hargs, rfl, rfl, g0, r0⟩ := trodAll_cons hA
  obtain ⟨v1, vs1, d1, ds1, p1, q1, rfl, rfl, rfl, g1, r1⟩ := trodAll_cons r0
  obtain ⟨v2, vs2, d2, ds2, p2, q2, rfl, rfl, rfl, g2, r2⟩ := trodAll_cons r1
  obtain ⟨v3, vs3, d3, ds3, p3, q3, rfl, rfl, rfl, g3, r3⟩ := trodAll_cons r2
  obtain ⟨v4, vs4, d4, ds4, p4, q4, rfl, rfl, rfl, g4, r4⟩ := trodAll_cons r3
  obtain ⟨rfl, rfl, rfl⟩ := trodAll_nil r4
  obtain rfl : args = #[v0, v1, v2, v3, v4] := by cases args; simp_all
  have hV2 : DataW.TrodVars enc Tryd.prog W (fun _ => true) [] gs q := hV
  obtain ⟨rfl, rfl⟩ : gs = [] ∧ q = [] := by
    cases gs with
    | nil => exact ⟨rfl, hV2⟩
    | cons g r => exact absurd hV2 (by intro h; cases h)
  obtain ⟨a0, rfl, rfl, rfl, u0⟩ := open_int Tryd.underlying3 (hval 0 3 v0 rfl rfl) g0
  have h0 := bounds_i64 u0
  have k1 := g1
  have lt1 : ∀ x ∈ p1, x.block < W.heap.size := by obtain ⟨m, hm⟩ := k1; exact DataW.trod_lt m _ _ _ hm
  have rd1 : Tryd.prog.readableRec 29 = true := by kernel_rfl
  have ls1 : 29 < Tryd.prog.types.size := of_decide_eq_true (by kernel_rfl)
  obtain ⟨a1, n1, c1, z1, rfl, h1⟩ := open_REdges (hval 1 29 v1 rfl rfl) g1
  obtain ⟨a2, rfl, rfl, rfl, u2⟩ := open_int Tryd.underlying3 (hval 2 3 v2 rfl rfl) g2
  have h2 := bounds_i64 u2
  obtain ⟨a3, rfl, rfl, rfl, u3⟩ := open_int Tryd.underlying3 (hval 3 3 v3 rfl rfl) g3
  have h3 := bounds_i64 u3
  have k4 := g4
  have lt4 : ∀ x ∈ p4, x.block < W.heap.size := by obtain ⟨m, hm⟩ := k4; exact DataW.trod_lt m _ _ _ hm
  have rd4 : Tryd.prog.readableRec 33 = true := by kernel_rfl
  have ls4 : 33 < Tryd.prog.types.size := of_decide_eq_true (by kernel_rfl)
  obtain ⟨a4, n4, c4, z4, rfl, h4⟩ := open_Ints (hval 4 33 v4 rfl rfl) g4
  clear hA0 hval0
  refine (walk a0 a1 n1 c1 z1 a2 a3 a4 n4 c4 z4 W h0 h1 h2 h3 h4 (handle_of_laid hL)).mono fun e W' ⟨he, bel⟩ => ?_
  subst he
  exact ⟨_, rfl, _, _, _, [], _, [], hW', trodAll_mk1 (shut_bool Tryd.underlying4 _), (trodAll_cons_mk (shut_int Tryd.underlying3 u0) (trodAll_cons_mk (Below.trod laidOut rd1 ls1 k1 bel lt1) (trodAll_cons_mk (shut_int Tryd.underlying3 u2) (trodAll_cons_mk (shut_int Tryd.underlying3 u3) (trodAll_cons_mk (Below.trod laidOut rd4 ls4 k4 bel lt4) trodAll_mk0))))), rfl, bel.frame _, fun h => by cases h⟩

theorem over : Rows.boundsTellRow.holds Tryd.pinned (OpenSpec.ofChange Rows.boundsTellSpec) :=
  OpenClaim.holds_of_wide 4 Tryd.f4 rfl rfl rfl rfl rfl rfl rfl ⟨rfl, rfl, rfl, rfl, rfl⟩ rfl rfl rfl rfl rfl (by kernel_rfl) Tryd.func4 (by kernel_rfl)
    (of_decide_eq_true (by kernel_rfl)) (by unfold Func.isWrapper; rw [if_neg (of_decide_eq_false (by kernel_rfl))]; exact ⟨rfl, rfl⟩)
    (fun os started H enc _ => lifted os started H enc)

theorem card : Rows.BoundsTellCardSaid :=
  Claim7.holds_tied_plain_at .later [] [.handle] true (true, Rows.boundsTellCard.stood.harness.2) true
    over (fun _ h => by cases h) (by kernel_rfl) (fun _ h => by cases h) boundsTell_row_tie rfl ⟨rfl, rfl⟩ (by kernel_rfl) rfl
    (fun f fn hf hfn => by
      obtain rfl : f = 4 := Option.some.inj ((show Tryd.prog.funcNamed "noonmark/noonlaw1.BoundsTell" = some 4 by kernel_rfl).symm.trans hf) |>.symm
      obtain rfl : fn = Tryd.f4 := (Option.some.inj (Tryd.func4.symm.trans hfn)).symm
      exact ⟨by kernel_rfl, fun j t ht => by
        rw [Tryd.params4] at ht
        exact noStandIn (ps := #[3, 29, 3, 3, 33]) (by kernel_rfl) ht⟩)
    (by kernel_rfl)

#print axioms card
end Go.Proofs.YtmdadjmlmohjcaaDoor.lBoundsTell
