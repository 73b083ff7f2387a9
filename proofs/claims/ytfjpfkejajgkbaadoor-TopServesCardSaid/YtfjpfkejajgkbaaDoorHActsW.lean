/- The program's world: what each act and answer does. -/
import Derived.Test.YtfjpfkejajgkbaaDoorHWorldG
import Derived.Test.YtfjpfkejajgkbaaDoorHWorldB
import Derived.Test.YtfjpfkejajgkbaaDoorHWorldF
import Derived.Test.YtfjpfkejajgkbaaDoorHWorldA
import Derived.Test.YtfjpfkejajgkbaaDoorHWorldT
import Derived.Test.YtfjpfkejajgkbaaDoorHG1
namespace Go.Proofs.YtfjpfkejajgkbaaDoor
open Go.RowKit
set_option linter.unusedVariables false
set_option linter.unusedSimpArgs false
/-- the letter that comes, behind a pointer. -/
def GotP (w w' : World) : Option RLetter → Value → Value → Prop
  | none, P, _ => P = .pointer none
  | some L, P, uv' => ∃ p, P = .pointer (some ⟨p, 0, none⟩) ∧ w.heap.size ≤ p ∧ Blk w' p 97 (RLetter.cells L).toArray ∧ uv'.ownBlock ≠ some p
/-- what an act does, in the program's world. -/
def DoW (n : Nat) (ss rs : List Int) (t : Int) (us : List RLetter) (A : RAct) (c : Int) (got : Option RLetter) (t' : Int) (us' : List RLetter) : Prop :=
  ∀ (g B : Nat) (uv : Value) (w : World), WorldU w g B n ss rs t uv us →
    Calls Tryd.prog 30 #[.pointer (some ⟨g, 0, none⟩), .agg #[.int .i64 A.what, .int .i64 A.a, .int .i64 A.b]] w fun e w' => ∃ P uv', e = .returned (.tuple #[P, errV c]) ∧ GotP w w' got P uv' ∧ WorldU w' g B n ss rs t' uv' us' ∧ Kept (Mine g uv) w w' ∧ (∀ q, uv'.ownBlock = some q → uv.ownBlock = some q ∨ w.heap.size ≤ q)
def AnsW (n : Nat) (ss rs : List Int) (t : Int) (us : List RLetter) (L : RLetter) (c : Int) (us' : List RLetter) : Prop :=
  ∀ (g B : Nat) (uv : Value) (w : World), WorldU w g B n ss rs t uv us →
    Calls Tryd.prog 33 #[.pointer (some ⟨g, 0, none⟩), .agg #[.int .i64 L.src, .int .i64 L.dst, .bool L.answer, .int .i64 L.t1, .int .i64 L.t2, .int .i64 L.t]] w fun e w' => e = .returned (errV c) ∧ Sent w g B n ss rs t uv us' w'
theorem sent_below {w w' : World} {g B n : Nat} {ss rs : List Int} {t : Int} {uv : Value} {us : List RLetter} (h : WorldU w g B n ss rs t uv us) (hb : Below w.heap.size w w') : Sent w g B n ss rs t uv us w' :=
  ⟨uv, h.below hb, (Kept.refl _ w).below hb, fun _ e => .inl e⟩
theorem dow_below {n : Nat} {ss rs : List Int} {t : Int} {us : List RLetter} {A : RAct} {c : Int} (hc : c ≠ 0)
    (h : ∀ (g B : Nat) (uv : Value) (w : World), WorldU w g B n ss rs t uv us → Calls Tryd.prog 30 #[.pointer (some ⟨g, 0, none⟩), .agg #[.int .i64 A.what, .int .i64 A.a, .int .i64 A.b]] w fun e w' => e = .returned (.tuple #[.pointer none, .iface 87 (.int .i64 c)]) ∧ Below w.heap.size w w') : DoW n ss rs t us A c none t us := fun g B uv w hw => (h g B uv w hw).mono (by
  rintro e w' ⟨rfl, hb⟩
  exact ⟨_, uv, by rw [errV_ne hc], rfl, hw.below hb, (Kept.refl _ w).below hb, fun _ e => .inl e⟩)
theorem act_W {n : Nat} {ss rs : List Int} {t t' : Int} {us us' : List RLetter} {A : RAct} {c : Int} {got : Option RLetter} (h : WAct n ss rs t us A c got t' us') (hA : RAct.ok A) : DoW n ss rs t us A c got t' us' := by
  cases h with
  | gone a b h0 h1 h2 => exact fun g B uv w hw => (world_Do_gone g B n ss rs t uv us a b w hw h0 h1 h2).mono (by rintro e w' ⟨rfl, h1, hk⟩; exact ⟨_, uv, rfl, rfl, h1, hk, fun _ e => .inl e⟩)
  | stays a b h0 => exact dow_below (by decide) fun g B uv w hw => world_Do_stays g B n ss rs t uv us a b w hw hA.2.1 h0
  | askNo a b h0 => exact dow_below (by decide) fun g B uv w hw => world_Do_ask_no g B n ss rs t uv us a b w hw h0
  | askSame i hi => exact dow_below (by decide) fun g B uv w hw => world_Do_ask_same g B n ss rs t uv us i w hw (hasN_nat hi)
  | askFull i k hi hk hne hl => exact dow_below (by decide) fun g B uv w hw => world_Do_full g B n ss rs t uv us i k w hw hi hk hne hl
  | ask i k s r hs hr hk hne hl => exact fun g B uv w hw => (world_Do_ask g B n ss rs t uv us i k s r w hw hs hr hk hne hl).mono (by rintro e w' ⟨rfl, uv', h1, h2, h3⟩; exact ⟨_, uv', rfl, rfl, h1, h2, h3⟩)
  | none_ k a b hk ha => exact dow_below (by decide) fun g B uv w hw => world_Do_none g B n ss rs t uv us k a b w hw hk ha
  | deliver j L b hj => exact fun g B uv w hw => (world_Do_deliver g B n ss rs t uv us j L b w hw hj).mono (by
      rintro e w' ⟨p, rfl, hp, hb, uv', h1, h2, h3⟩
      exact ⟨_, uv', rfl, ⟨p, rfl, hp, hb, fun e => by have := (hw.low _ (h3 p e)).2; omega⟩, h1, h2, fun q e => .inl (h3 q e)⟩)
  | lose j L b hj => exact fun g B uv w hw => (world_Do_lose g B n ss rs t uv us j L b w hw hj).mono (by rintro e w' ⟨rfl, uv', h1, h2, h3⟩; exact ⟨_, uv', rfl, rfl, h1, h2, h3⟩)
  | again j L b hj => exact fun g B uv w hw => (world_Do_repeat g B n ss rs t uv us j L b w hw hj).mono (by
      rintro e w' ⟨p, rfl, hp, hb, h1⟩
      exact ⟨_, uv, rfl, ⟨p, rfl, hp, hb, fun e => by have := (hw.low _ e).2; omega⟩, hw.below h1, (Kept.refl _ w).below h1, fun q e => .inl e⟩)
  | other k a b h1 h2 h3 h4 h5 => exact dow_below (by decide) fun g B uv w hw => world_Do_other g k a b w h1 h2 h3 h4 h5
theorem ans_W {n : Nat} {ss rs : List Int} {t : Int} {us us' : List RLetter} {L : RLetter} {c : Int} (h : WAns n ss rs t us L c us') (hL : RLetter.ok L) : AnsW n ss rs t us L c us' := by
  cases h with
  | yes a b t1 t2 lt => exact fun g B uv w hw => (world_Answer_yes g a b t1 t2 lt w).mono (by rintro e w' ⟨rfl, hb⟩; exact ⟨rfl, sent_below hw hb⟩)
  | no a b t1 t2 lt h0 => exact fun g B uv w hw => (world_Answer_no g B n ss rs t uv us a b t1 t2 lt w hw h0).mono (by rintro e w' ⟨rfl, hb⟩; exact ⟨rfl, sent_below hw hb⟩)
  | full i k t1 t2 lt hi hk hl => exact fun g B uv w hw => (world_Answer_full g B n ss rs t uv us i k t1 t2 lt w hw (hasN_nat hi) (hasN_nat hk) hl).mono (by rintro e w' ⟨rfl, hb⟩; exact ⟨rfl, sent_below hw hb⟩)
  | ok i k s r t1 t2 lt hs hr hi hl => exact fun g B uv w hw => (world_Answer g B n ss rs t uv us i k s r t1 t2 lt w hw hs hr hi hl hL.2.2.2.2).mono (by rintro e w' ⟨rfl, h1⟩; exact ⟨rfl, h1⟩)
end Go.Proofs.YtfjpfkejajgkbaaDoor
