/- Both worlds' acts and answers, bundled: what each act does, on either side. -/
import Derived.Test.YtloniibmmajlbaaDoorWorldG
import Derived.Test.YtloniibmmajlbaaDoorWorldB
import Derived.Test.YtloniibmmajlbaaDoorWorldF
import Derived.Test.YtloniibmmajlbaaDoorWorldA
import Derived.Test.YtloniibmmajlbaaDoorWorldT
import Derived.Test.YtloniibmmajlbaaDoorRAnsw
import Derived.Test.YtloniibmmajlbaaDoorRDoS
import Derived.Test.YtloniibmmajlbaaDoorRDoN
import Derived.Test.YtloniibmmajlbaaDoorRDoA
import Derived.Test.YtloniibmmajlbaaDoorRDoT
namespace Go.Proofs.YtloniibmmajlbaaDoor
open Go.RowKit
set_option linter.unusedVariables false
set_option linter.unusedSimpArgs false
/-- the letter that comes, behind a pointer. -/
def GotP (w w' : World) : Option RLetter → Value → Value → Prop
  | none, P, _ => P = .pointer none
  | some L, P, uv' => ∃ p, P = .pointer (some ⟨p, 0, none⟩) ∧ w.heap.size ≤ p ∧ Blk w' p 37 (RLetter.cells L).toArray ∧ uv'.ownBlock ≠ some p
def GotV : Option RLetter → Value
  | none => noL
  | some L => .agg (RLetter.cells L).toArray
/-- what an act does, in the program's world. -/
def DoW (n : Nat) (ss rs : List Int) (t : Int) (us : List RLetter) (A : RAct) (c : Int) (got : Option RLetter) (t' : Int) (us' : List RLetter) : Prop :=
  ∀ (g B : Nat) (uv : Value) (w : World), WorldU w g B n ss rs t uv us →
    Calls Tryd.prog 6 #[.pointer (some ⟨g, 0, none⟩), .agg #[.int .i64 A.what, .int .i64 A.a, .int .i64 A.b]] w fun e w' => ∃ P uv', e = .returned (.tuple #[P, errV c]) ∧ GotP w w' got P uv' ∧ WorldU w' g B n ss rs t' uv' us' ∧ Kept (Mine g uv) w w' ∧ (∀ q, uv'.ownBlock = some q → uv.ownBlock = some q ∨ w.heap.size ≤ q)
/-- what it does in the reference's. -/
def DoR (n : Nat) (ss rs : List Int) (t : Int) (us : List RLetter) (A : RAct) (c : Int) (got : Option RLetter) (t' : Int) (us' : List RLetter) : Prop :=
  ∀ (W0 : World) (M B : Nat) (A1 A2 : Option Addr) (c1 c2 : Nat) (uv : Value) (w : World), RWorld W0 w M B n A1 A2 c1 c2 t uv us → IsInts W0 A1 n c1 ss → IsInts W0 A2 n c2 rs →
    Calls Tryd.prog 10 #[.pointer (some ⟨M, 0, none⟩), .agg #[.int .i64 A.what, .int .i64 A.a, .int .i64 A.b]] w fun e w' => e = .returned (.tuple #[GotV got, .bool got.isSome, .int .i64 c]) ∧ ∃ uv', RWorld W0 w' M B n A1 A2 c1 c2 t' uv' us' ∧ Kept (Mine M uv) w w' ∧ (∀ q, uv'.ownBlock = some q → uv.ownBlock = some q ∨ w.heap.size ≤ q)
def AnsW (n : Nat) (ss rs : List Int) (t : Int) (us : List RLetter) (L : RLetter) (c : Int) (us' : List RLetter) : Prop :=
  ∀ (g B : Nat) (uv : Value) (w : World), WorldU w g B n ss rs t uv us →
    Calls Tryd.prog 11 #[.pointer (some ⟨g, 0, none⟩), .agg #[.int .i64 L.src, .int .i64 L.dst, .bool L.answer, .int .i64 L.t1, .int .i64 L.t2, .int .i64 L.t]] w fun e w' => e = .returned (errV c) ∧ Sent w g B n ss rs t uv us' w'
def AnsR (n : Nat) (ss rs : List Int) (t : Int) (us : List RLetter) (L : RLetter) (c : Int) (us' : List RLetter) : Prop :=
  ∀ (W0 : World) (M B : Nat) (A1 A2 : Option Addr) (c1 c2 : Nat) (uv : Value) (w : World), RWorld W0 w M B n A1 A2 c1 c2 t uv us → IsInts W0 A1 n c1 ss → IsInts W0 A2 n c2 rs →
    Calls Tryd.prog 12 #[.pointer (some ⟨M, 0, none⟩), .agg #[.int .i64 L.src, .int .i64 L.dst, .bool L.answer, .int .i64 L.t1, .int .i64 L.t2, .int .i64 L.t]] w fun e w' => e = .returned (.int .i64 c) ∧ RSent W0 w M B n A1 A2 c1 c2 t uv us' w'
theorem sent_below {w w' : World} {g B n : Nat} {ss rs : List Int} {t : Int} {uv : Value} {us : List RLetter} (h : WorldU w g B n ss rs t uv us) (hb : Below w.heap.size w w') : Sent w g B n ss rs t uv us w' :=
  ⟨uv, h.below hb, (Kept.refl _ w).below hb, fun _ e => .inl e⟩
theorem rsent_below {W0 w w' : World} {M B n : Nat} {A1 A2 : Option Addr} {c1 c2 : Nat} {t : Int} {uv : Value} {us : List RLetter} (h : RWorld W0 w M B n A1 A2 c1 c2 t uv us) (hb : Below w.heap.size w w') : RSent W0 w M B n A1 A2 c1 c2 t uv us w' :=
  ⟨uv, h.below hb, (Kept.refl _ w).below hb, fun _ e => .inl e⟩
theorem hasN_iff {n : Nat} {i : Int} : hasN n i = true ↔ 0 ≤ i ∧ i < n := by unfold hasN; simp
theorem hasN_cases (n : Nat) (a b : Int) : (hasN n a = false ∨ hasN n b = false) ∨ ∃ i k : Nat, a = i ∧ b = k ∧ i < n ∧ k < n := by
  cases h1 : hasN n a
  · exact .inl (.inl rfl)
  · cases h2 : hasN n b
    · exact .inl (.inr rfl)
    · rw [hasN_iff] at h1 h2
      exact .inr ⟨a.toNat, b.toNat, by omega, by omega, by omega, by omega⟩
theorem both_Ans (n : Nat) (ss rs : List Int) (t : Int) (us : List RLetter) (L : RLetter) (hL : RLetter.ok L) (ls : ss.length = n) (lr : rs.length = n) (n6 : n ≤ 6) (sb : ∀ (i : Nat) z, ss[i]? = some z → 0 ≤ z ∧ z ≤ 1000000) (rb : ∀ (i : Nat) z, rs[i]? = some z → -1000 ≤ z ∧ z ≤ 1000) :
    ∃ c us', AnsW n ss rs t us L c us' ∧ AnsR n ss rs t us L c us' := by
  obtain ⟨a, b, q, t1, t2, lt⟩ := L
  obtain ⟨_, _, _, _, hlt⟩ := hL
  simp only at hlt
  cases q
  · rcases hasN_cases n a b with h0 | ⟨i, k, rfl, rfl, hi, hk⟩
    · refine ⟨1, us, fun g B uv w h => (world_Answer_no g B n ss rs t uv us a b t1 t2 lt w h h0).mono ?_, fun W0 M B A1 A2 c1 c2 uv w h _ _ => (r2_Answer_no W0 M B n A1 A2 c1 c2 t uv us a b t1 t2 lt w h h0).mono ?_⟩
      · rintro e w' ⟨rfl, hb⟩; exact ⟨rfl, sent_below h hb⟩
      · rintro e w' ⟨rfl, hb⟩; exact ⟨rfl, rsent_below h hb⟩
    · by_cases hl : us.length < 40
      · obtain ⟨s, hs⟩ : ∃ z, ss[k]? = some z := ⟨_, List.getElem?_eq_getElem (by omega)⟩
        obtain ⟨r, hr⟩ : ∃ z, rs[k]? = some z := ⟨_, List.getElem?_eq_getElem (by omega)⟩
        exact ⟨0, us ++ [⟨k, i, true, lt, readV s r t, readV s r t⟩], fun g B uv w h => (world_Answer g B n ss rs t uv us i k s r t1 t2 lt w h hs hr hi hl hlt).mono (by rintro e w' ⟨rfl, h1⟩; exact ⟨rfl, h1⟩),
          fun W0 M B A1 A2 c1 c2 uv w h i1 i2 => r2_Answer W0 M B n A1 A2 c1 c2 ss rs t uv us i k s r t1 t2 lt w h i1 i2 n6 hs hr (sb k s hs) (rb k r hr) hi hl hlt⟩
      · refine ⟨4, us, fun g B uv w h => (world_Answer_full g B n ss rs t uv us i k t1 t2 lt w h (hasN_nat hi) (hasN_nat hk) (by omega)).mono ?_, fun W0 M B A1 A2 c1 c2 uv w h _ _ => (r2_Answer_full W0 M B n A1 A2 c1 c2 t uv us i k t1 t2 lt w h (hasN_nat hi) (hasN_nat hk) (by omega)).mono ?_⟩
        · rintro e w' ⟨rfl, hb⟩; exact ⟨rfl, sent_below h hb⟩
        · rintro e w' ⟨rfl, hb⟩; exact ⟨rfl, rsent_below h hb⟩
  · refine ⟨3, us, fun g B uv w h => (world_Answer_yes g a b t1 t2 lt w).mono ?_, fun W0 M B A1 A2 c1 c2 uv w h _ _ => (r2_Answer_yes M a b t1 t2 lt w).mono ?_⟩
    · rintro e w' ⟨rfl, hb⟩; exact ⟨rfl, sent_below h hb⟩
    · rintro e w' ⟨rfl, hb⟩; exact ⟨rfl, rsent_below h hb⟩
theorem dow_below {n : Nat} {ss rs : List Int} {t : Int} {us : List RLetter} {A : RAct} {c : Int} (hc : c ≠ 0)
    (h : ∀ (g B : Nat) (uv : Value) (w : World), WorldU w g B n ss rs t uv us → Calls Tryd.prog 6 #[.pointer (some ⟨g, 0, none⟩), .agg #[.int .i64 A.what, .int .i64 A.a, .int .i64 A.b]] w fun e w' => e = .returned (.tuple #[.pointer none, .iface 55 (.int .i64 c)]) ∧ Below w.heap.size w w') : DoW n ss rs t us A c none t us := fun g B uv w hw => (h g B uv w hw).mono (by
  rintro e w' ⟨rfl, hb⟩
  exact ⟨_, uv, by rw [errV_ne hc], rfl, hw.below hb, (Kept.refl _ w).below hb, fun _ e => .inl e⟩)
theorem dor_below {n : Nat} {ss rs : List Int} {t : Int} {us : List RLetter} {A : RAct} {c : Int}
    (h : ∀ (W0 : World) (M B : Nat) (A1 A2 : Option Addr) (c1 c2 : Nat) (uv : Value) (w : World), RWorld W0 w M B n A1 A2 c1 c2 t uv us → Calls Tryd.prog 10 #[.pointer (some ⟨M, 0, none⟩), .agg #[.int .i64 A.what, .int .i64 A.a, .int .i64 A.b]] w fun e w' => e = .returned (.tuple #[noL, .bool false, .int .i64 c]) ∧ Below w.heap.size w w') : DoR n ss rs t us A c none t us := fun W0 M B A1 A2 c1 c2 uv w hw _ _ => (h W0 M B A1 A2 c1 c2 uv w hw).mono (by
  rintro e w' ⟨rfl, hb⟩
  exact ⟨rfl, rsent_below hw hb⟩)
/-- what stays so of letters and time. -/
def Fine (t : Int) (us : List RLetter) : Prop := 0 ≤ t ∧ t ≤ 1000000000 ∧ us.length ≤ 40 ∧ ∀ z ∈ us, RLetter.ok z
theorem both_Do (n : Nat) (ss rs : List Int) (t : Int) (us : List RLetter) (A : RAct) (hA : RAct.ok A) (hF : Fine t us) (ls : ss.length = n) (lr : rs.length = n) (n6 : n ≤ 6) (sb : ∀ (i : Nat) z, ss[i]? = some z → 0 ≤ z ∧ z ≤ 1000000) (rb : ∀ (i : Nat) z, rs[i]? = some z → -1000 ≤ z ∧ z ≤ 1000) :
    ∃ c got t' us', DoW n ss rs t us A c got t' us' ∧ DoR n ss rs t us A c got t' us' ∧ (∀ L, got = some L → c = 0 ∧ RLetter.ok L) := by
  obtain ⟨k, a, b⟩ := A
  obtain ⟨_, ha, _⟩ := hA
  simp only at ha
  obtain ⟨f1, f2, f3, f4⟩ := hF
  by_cases k1 : k = 1
  · subst k1
    by_cases h0 : a < 0 ∨ 1000000 < a ∨ 1000000000 < t + a
    · exact ⟨1, none, t, us, dow_below (by decide) fun g B uv w h => world_Do_stays g B n ss rs t uv us a b w h ha h0, dor_below fun W0 M B A1 A2 c1 c2 uv w h => r2_Do_stays W0 M B n A1 A2 c1 c2 t uv us a b w h ha h0, by simp⟩
    · refine ⟨0, none, t + a, us, fun g B uv w h => (world_Do_gone g B n ss rs t uv us a b w h (by omega) (by omega) (by omega)).mono ?_, fun W0 M B A1 A2 c1 c2 uv w h _ _ => (r2_Do_gone W0 M B n A1 A2 c1 c2 t uv us a b w h (by omega) (by omega) (by omega)).mono ?_, by simp⟩
      · rintro e w' ⟨rfl, hw, hk⟩; exact ⟨_, uv, rfl, rfl, hw, hk, fun _ e => .inl e⟩
      · rintro e w' ⟨rfl, hw, hk⟩; exact ⟨rfl, uv, hw, hk, fun _ e => .inl e⟩
  by_cases k2 : k = 2
  · subst k2
    rcases hasN_cases n a b with h0 | ⟨i, k, rfl, rfl, hi, hk⟩
    · exact ⟨1, none, t, us, dow_below (by decide) fun g B uv w h => world_Do_ask_no g B n ss rs t uv us a b w h h0, dor_below fun W0 M B A1 A2 c1 c2 uv w h => r2_Do_ask_no W0 M B n A1 A2 c1 c2 t uv us a b w h h0, by simp⟩
    · by_cases hne : i = k
      · subst hne
        exact ⟨3, none, t, us, dow_below (by decide) fun g B uv w h => world_Do_ask_same g B n ss rs t uv us i w h (hasN_nat hi), dor_below fun W0 M B A1 A2 c1 c2 uv w h => r2_Do_ask_same W0 M B n A1 A2 c1 c2 t uv us i w h (hasN_nat hi), by simp⟩
      · by_cases hl : us.length < 40
        · obtain ⟨s, hs⟩ : ∃ z, ss[i]? = some z := ⟨_, List.getElem?_eq_getElem (by omega)⟩
          obtain ⟨r, hr⟩ : ∃ z, rs[i]? = some z := ⟨_, List.getElem?_eq_getElem (by omega)⟩
          refine ⟨0, none, t, us ++ [⟨i, k, false, 0, 0, readV s r t⟩], fun g B uv w h => (world_Do_ask g B n ss rs t uv us i k s r w h hs hr hk hne hl).mono ?_, fun W0 M B A1 A2 c1 c2 uv w h i1 i2 => (r2_Do_ask W0 M B n A1 A2 c1 c2 ss rs t uv us i k s r w h i1 i2 n6 hs hr (sb i s hs) (rb i r hr) hk hne hl).mono ?_, by simp⟩
          · rintro e w' ⟨rfl, uv', h1, h2, h3⟩; exact ⟨_, uv', rfl, rfl, h1, h2, h3⟩
          · rintro e w' ⟨rfl, h1⟩; exact ⟨rfl, h1⟩
        · exact ⟨4, none, t, us, dow_below (by decide) fun g B uv w h => world_Do_full g B n ss rs t uv us i k w h hi hk hne (by omega), dor_below fun W0 M B A1 A2 c1 c2 uv w h => r2_Do_ask_full W0 M B n A1 A2 c1 c2 t uv us i k w h (hasN_nat hi) (hasN_nat hk) (by omega) (by omega), by simp⟩
  by_cases k3 : k = 3 ∨ k = 4 ∨ k = 5
  · by_cases h0 : a < 0 ∨ (us.length : Int) ≤ a
    · exact ⟨5, none, t, us, dow_below (by decide) fun g B uv w h => world_Do_none g B n ss rs t uv us k a b w h k3 h0, dor_below fun W0 M B A1 A2 c1 c2 uv w h => r2_Do_none W0 M B n A1 A2 c1 c2 t uv us k a b w h k3 h0, by simp⟩
    · obtain ⟨j, rfl⟩ : ∃ j : Nat, a = j := ⟨a.toNat, by omega⟩
      obtain ⟨L, hj⟩ : ∃ z, us[j]? = some z := ⟨_, List.getElem?_eq_getElem (by omega)⟩
      have hL := f4 L (List.mem_of_getElem? hj)
      rcases k3 with rfl | rfl | rfl
      · refine ⟨0, some L, t, us.eraseIdx j, fun g B uv w h => (world_Do_deliver g B n ss rs t uv us j L b w h hj).mono ?_, fun W0 M B A1 A2 c1 c2 uv w h _ _ => (r2_Do_deliver W0 M B n A1 A2 c1 c2 t uv us j L b w h hj).mono ?_, fun L' e => by cases e; exact ⟨rfl, hL⟩⟩
        · rintro e w' ⟨p, rfl, hp, hb, uv', h1, h2, h3⟩
          exact ⟨_, uv', rfl, ⟨p, rfl, hp, hb, fun e => by have := (h.low _ (h3 p e)).2; omega⟩, h1, h2, fun q e => .inl (h3 q e)⟩
        · rintro e w' ⟨rfl, h1⟩; exact ⟨rfl, h1⟩
      · refine ⟨0, none, t, us.eraseIdx j, fun g B uv w h => (world_Do_lose g B n ss rs t uv us j L b w h hj).mono ?_, fun W0 M B A1 A2 c1 c2 uv w h _ _ => (r2_Do_lose W0 M B n A1 A2 c1 c2 t uv us j L b w h hj).mono ?_, by simp⟩
        · rintro e w' ⟨rfl, uv', h1, h2, h3⟩; exact ⟨_, uv', rfl, rfl, h1, h2, h3⟩
        · rintro e w' ⟨rfl, h1⟩; exact ⟨rfl, h1⟩
      · refine ⟨0, some L, t, us, fun g B uv w h => (world_Do_repeat g B n ss rs t uv us j L b w h hj).mono ?_, fun W0 M B A1 A2 c1 c2 uv w h _ _ => (r2_Do_repeat W0 M B n A1 A2 c1 c2 t uv us j L b w h hj).mono ?_, fun L' e => by cases e; exact ⟨rfl, hL⟩⟩
        · rintro e w' ⟨p, rfl, hp, hb, h1⟩
          exact ⟨_, uv, rfl, ⟨p, rfl, hp, hb, fun e => by have := (h.low _ e).2; omega⟩, h.below h1, (Kept.refl _ w).below h1, fun q e => .inl e⟩
        · rintro e w' ⟨rfl, h1⟩; exact ⟨rfl, rsent_below h h1⟩
  · exact ⟨1, none, t, us, dow_below (by decide) fun g B uv w h => world_Do_other g k a b w k1 k2 (by omega) (by omega) (by omega), dor_below fun W0 M B A1 A2 c1 c2 uv w h => r2_Do_other M k a b w k1 k2 (by omega) (by omega) (by omega), by simp⟩
end Go.Proofs.YtloniibmmajlbaaDoor
