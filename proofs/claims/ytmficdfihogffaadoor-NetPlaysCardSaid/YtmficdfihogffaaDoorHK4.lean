/- Texts that serve many laws, one behind the other. -/
import Derived.Deep.CutBlock
import Derived.Deep.DeepCutAuto
import Derived.Deep.Light
import Derived.Test.YtmficdfihogffaaDoorHAll
import Derived.Test.YtmficdfihogffaaDoorHK1
import Derived.Test.YtmficdfihogffaaDoorHK2
import Derived.Test.YtmficdfihogffaaDoorHK3
import Derived.Test.YtmficdfihogffaaDoorHNetDA
import Derived.Test.YtmficdfihogffaaDoorHNetDB
import Derived.Test.YtmficdfihogffaaDoorHNetDT
import Derived.Test.YtmficdfihogffaaDoorHSDoA
import Derived.Test.YtmficdfihogffaaDoorHSDoT
/- The reference's world in a net's block: what each act and answer does. -/
namespace Go.Proofs.YtmficdfihogffaaDoor
open Go.RowKit
set_option linter.unusedVariables false
set_option linter.unusedSimpArgs false
variable {qv : Value}
def GotV : Option RLetter → Value
  | none => noL
  | some L => .agg (RLetter.cells L).toArray
/-- what an act does in the reference's world. -/
def DoR (qv : Value) (n : Nat) (ss rs : List Int) (t : Int) (us : List RLetter) (A : RAct) (c : Int) (got : Option RLetter) (t' : Int) (us' : List RLetter) : Prop :=
  ∀ (W0 : World) (M B : Nat) (A1 A2 : Option Addr) (c1 c2 : Nat) (uv : Value) (w : World), RWorld qv W0 w M B n A1 A2 c1 c2 t uv us → IsInts W0 A1 n c1 ss → IsInts W0 A2 n c2 rs →
    Calls Tryd.prog 29 #[.pointer (some ⟨M, 0, none⟩), .agg #[.int .i64 A.what, .int .i64 A.a, .int .i64 A.b]] w fun e w' => e = .returned (.tuple #[GotV got, .bool got.isSome, .int .i64 c]) ∧ ∃ uv', RWorld qv W0 w' M B n A1 A2 c1 c2 t' uv' us' ∧ Kept (Mine M uv) w w' ∧ (∀ q, uv'.ownBlock = some q → uv.ownBlock = some q ∨ w.heap.size ≤ q)
def AnsR (qv : Value) (n : Nat) (ss rs : List Int) (t : Int) (us : List RLetter) (L : RLetter) (c : Int) (us' : List RLetter) : Prop :=
  ∀ (W0 : World) (M B : Nat) (A1 A2 : Option Addr) (c1 c2 : Nat) (uv : Value) (w : World), RWorld qv W0 w M B n A1 A2 c1 c2 t uv us → IsInts W0 A1 n c1 ss → IsInts W0 A2 n c2 rs →
    Calls Tryd.prog 31 #[.pointer (some ⟨M, 0, none⟩), .agg #[.int .i64 L.src, .int .i64 L.dst, .bool L.answer, .int .i64 L.t1, .int .i64 L.t2, .int .i64 L.t]] w fun e w' => e = .returned (.int .i64 c) ∧ RSent qv W0 w M B n A1 A2 c1 c2 t uv us' w'
theorem rsent_below {W0 w w' : World} {M B n : Nat} {A1 A2 : Option Addr} {c1 c2 : Nat} {t : Int} {uv : Value} {us : List RLetter} (h : RWorld qv W0 w M B n A1 A2 c1 c2 t uv us) (hb : Below w.heap.size w w') : RSent qv W0 w M B n A1 A2 c1 c2 t uv us w' :=
  ⟨uv, h.below hb, (Kept.refl _ w).below hb, fun _ e => .inl e⟩
theorem dor_below {n : Nat} {ss rs : List Int} {t : Int} {us : List RLetter} {A : RAct} {c : Int}
    (h : ∀ (W0 : World) (M B : Nat) (A1 A2 : Option Addr) (c1 c2 : Nat) (uv : Value) (w : World), RWorld qv W0 w M B n A1 A2 c1 c2 t uv us → Calls Tryd.prog 29 #[.pointer (some ⟨M, 0, none⟩), .agg #[.int .i64 A.what, .int .i64 A.a, .int .i64 A.b]] w fun e w' => e = .returned (.tuple #[noL, .bool false, .int .i64 c]) ∧ Below w.heap.size w w') : DoR qv n ss rs t us A c none t us := fun W0 M B A1 A2 c1 c2 uv w hw _ _ => (h W0 M B A1 A2 c1 c2 uv w hw).mono (by
  rintro e w' ⟨rfl, hb⟩
  exact ⟨rfl, rsent_below hw hb⟩)
theorem act_R {n : Nat} {ss rs : List Int} {t t' : Int} {us us' : List RLetter} {A : RAct} {c : Int} {got : Option RLetter} (h : WAct n ss rs t us A c got t' us') (hA : RAct.ok A) (n6 : n ≤ 6) (sb : ∀ (i : Nat) z, ss[i]? = some z → 0 ≤ z ∧ z ≤ 1000000) (rb : ∀ (i : Nat) z, rs[i]? = some z → -1000 ≤ z ∧ z ≤ 1000) : DoR qv n ss rs t us A c got t' us' := by
  cases h with
  | gone a b h0 h1 h2 => exact fun W0 M B A1 A2 c1 c2 uv w h _ _ => (r2_Do_gone W0 M B n A1 A2 c1 c2 t uv us a b w h h0 h1 h2).mono (by rintro e w' ⟨rfl, h1, hk⟩; exact ⟨rfl, uv, h1, hk, fun _ e => .inl e⟩)
  | stays a b h0 => exact dor_below fun W0 M B A1 A2 c1 c2 uv w h => r2_Do_stays W0 M B n A1 A2 c1 c2 t uv us a b w h hA.2.1 h0
  | askNo a b h0 => exact dor_below fun W0 M B A1 A2 c1 c2 uv w h => r2_Do_ask_no W0 M B n A1 A2 c1 c2 t uv us a b w h h0
  | askSame i hi => exact dor_below fun W0 M B A1 A2 c1 c2 uv w h => r2_Do_ask_same W0 M B n A1 A2 c1 c2 t uv us i w h (hasN_nat hi)
  | askFull i k hi hk hne hl => exact dor_below fun W0 M B A1 A2 c1 c2 uv w h => r2_Do_ask_full W0 M B n A1 A2 c1 c2 t uv us i k w h (hasN_nat hi) (hasN_nat hk) (by omega) (by omega)
  | ask i k s r hs hr hk hne hl => exact fun W0 M B A1 A2 c1 c2 uv w h i1 i2 => (r2_Do_ask W0 M B n A1 A2 c1 c2 ss rs t uv us i k s r w h i1 i2 n6 hs hr (sb i s hs) (rb i r hr) hk hne hl).mono (by rintro e w' ⟨rfl, h1⟩; exact ⟨rfl, h1⟩)
  | none_ k a b hk ha => exact dor_below fun W0 M B A1 A2 c1 c2 uv w h => r2_Do_none W0 M B n A1 A2 c1 c2 t uv us k a b w h hk ha
  | deliver j L b hj => exact fun W0 M B A1 A2 c1 c2 uv w h _ _ => (r2_Do_deliver W0 M B n A1 A2 c1 c2 t uv us j L b w h hj).mono (by rintro e w' ⟨rfl, h1⟩; exact ⟨rfl, h1⟩)
  | lose j L b hj => exact fun W0 M B A1 A2 c1 c2 uv w h _ _ => (r2_Do_lose W0 M B n A1 A2 c1 c2 t uv us j L b w h hj).mono (by rintro e w' ⟨rfl, h1⟩; exact ⟨rfl, h1⟩)
  | again j L b hj => exact fun W0 M B A1 A2 c1 c2 uv w h _ _ => (r2_Do_repeat W0 M B n A1 A2 c1 c2 t uv us j L b w h hj).mono (by rintro e w' ⟨rfl, hb⟩; exact ⟨rfl, rsent_below h hb⟩)
  | other k a b h1 h2 h3 h4 h5 => exact dor_below fun W0 M B A1 A2 c1 c2 uv w h => r2_Do_other M k a b w h1 h2 h3 h4 h5
theorem ans_R {n : Nat} {ss rs : List Int} {t : Int} {us us' : List RLetter} {L : RLetter} {c : Int} (h : WAns n ss rs t us L c us') (hL : RLetter.ok L) (n6 : n ≤ 6) (sb : ∀ (i : Nat) z, ss[i]? = some z → 0 ≤ z ∧ z ≤ 1000000) (rb : ∀ (i : Nat) z, rs[i]? = some z → -1000 ≤ z ∧ z ≤ 1000) : AnsR qv n ss rs t us L c us' := by
  cases h with
  | yes a b t1 t2 lt => exact fun W0 M B A1 A2 c1 c2 uv w h _ _ => (r2_Answer_yes M a b t1 t2 lt w).mono (by rintro e w' ⟨rfl, hb⟩; exact ⟨rfl, rsent_below h hb⟩)
  | no a b t1 t2 lt h0 => exact fun W0 M B A1 A2 c1 c2 uv w h _ _ => (r2_Answer_no W0 M B n A1 A2 c1 c2 t uv us a b t1 t2 lt w h h0).mono (by rintro e w' ⟨rfl, hb⟩; exact ⟨rfl, rsent_below h hb⟩)
  | full i k t1 t2 lt hi hk hl => exact fun W0 M B A1 A2 c1 c2 uv w h _ _ => (r2_Answer_full W0 M B n A1 A2 c1 c2 t uv us i k t1 t2 lt w h (hasN_nat hi) (hasN_nat hk) hl).mono (by rintro e w' ⟨rfl, hb⟩; exact ⟨rfl, rsent_below h hb⟩)
  | ok i k s r t1 t2 lt hs hr hi hl => exact fun W0 M B A1 A2 c1 c2 uv w h i1 i2 => r2_Answer W0 M B n A1 A2 c1 c2 ss rs t uv us i k s r t1 t2 lt w h i1 i2 n6 hs hr (sb k s hs) (rb k r hr) hi hl hL.2.2.2.2
end Go.Proofs.YtmficdfihogffaaDoor

/- The reference's net: where it lies. -/
namespace Go.Proofs.YtmficdfihogffaaDoor
open Go.RowKit
set_option linter.unusedVariables false
set_option linter.unusedSimpArgs false
/-- where the reference's net lies. -/
structure SAd where
  M : Nat
  B : Nat
  Q : Nat
  n : Nat
  d : Nat
  gi : Nat → Nat
def SAd.qv (b : SAd) : Value := .slice (some ⟨b.Q, 0, none⟩) b.n b.d
structure SNetAt (W0 w : World) (b : SAd) (A1 A2 : Option Addr) (c1 c2 : Nat) (p t : Int) (uv : Value) (us : List RLetter) (S : Nat → NSt) : Prop where
  W : RWorld b.qv W0 w b.M b.B b.n A1 A2 c1 c2 t uv us
  row : ∀ i, i < b.n → w.cell? ⟨b.Q, i, none⟩ = some (.pointer (some ⟨b.gi i, 0, none⟩))
  Qo : W0.heap.size ≤ b.Q ∧ b.Q < b.B ∧ b.Q ≠ b.M
  nd : b.n ≤ b.d ∧ b.d ≤ maxLen
  g : ∀ i, i < b.n → W0.heap.size ≤ b.gi i ∧ b.gi i < b.B ∧ b.gi i ≠ b.M ∧ b.gi i ≠ b.Q
  gd : ∀ i j, i < b.n → j < b.n → i ≠ j → b.gi i ≠ b.gi j
  at_ : ∀ i, i < b.n → RNodeAt w (b.gi i) (S i)
  sN : ∀ i, i < b.n → (S i).N = b.n ∧ (S i).id = i ∧ (S i).p = p
  has : ∀ L ∈ us, LHas b.n L
/-- what the net's acts may turn. -/
def SMine (b : SAd) (uv : Value) (k : Nat) : Prop := k = b.M ∨ uv.ownBlock = some k ∨ ∃ i, i < b.n ∧ k = b.gi i
variable {W0 w w' : World} {b : SAd} {A1 A2 : Option Addr} {c1 c2 : Nat} {p t t' : Int} {uv uv' : Value} {us us' : List RLetter} {S : Nat → NSt}
theorem SNetAt.below (h : SNetAt W0 w b A1 A2 c1 c2 p t uv us S) (hb : Below w.heap.size w w') : SNetAt W0 w' b A1 A2 c1 c2 p t uv us S :=
  ⟨h.W.below hb, fun i hi => (hb.cell (p := ⟨b.Q, i, none⟩) (Nat.lt_of_lt_of_le h.Qo.2.1 h.W.Bw)).trans (h.row i hi), h.Qo, h.nd, h.g, h.gd, fun i hi => (h.at_ i hi).below hb, h.sN, h.has⟩
/-- an act of the world. -/
theorem SNetAt.world (h : SNetAt W0 w b A1 A2 c1 c2 p t uv us S) (hW : RWorld b.qv W0 w' b.M b.B b.n A1 A2 c1 c2 t' uv' us') (hK : Kept (Mine b.M uv) w w') (hu : ∀ L ∈ us', LHas b.n L) : SNetAt W0 w' b A1 A2 c1 c2 p t' uv' us' S := by
  have hlow := h.W.low
  have hn : ∀ k, k < b.B → k ≠ b.M → ¬ Mine b.M uv k := fun k hk hm e => by
    rcases e with e | e
    · exact hm e
    · have := (hlow k e).1; omega
  exact ⟨hW, fun i hi => (World.cell?_of_block (hK.block b.Q (Nat.lt_of_lt_of_le h.Qo.2.1 h.W.Bw) (hn _ h.Qo.2.1 h.Qo.2.2))).trans (h.row i hi), h.Qo, h.nd, h.g, h.gd, fun i hi => (h.at_ i hi).other hK (hn _ (h.g i hi).2.1 (h.g i hi).2.2.1), h.sN, hu⟩
/-- a node that hears. -/
theorem SNetAt.hear {d : Nat} {s' : NSt} (h : SNetAt W0 w b A1 A2 c1 c2 p t uv us S) (hd : d < b.n) (hN : RNodeAt w' (b.gi d) s') (hK : Kept (fun k => k = b.gi d) w w') (hs : s'.N = b.n ∧ s'.id = d ∧ s'.p = p) : SNetAt W0 w' b A1 A2 c1 c2 p t uv us (updS S d s') := by
  obtain ⟨g1, g2, g3, g4⟩ := h.g d hd
  have hlow := h.W.low
  refine ⟨h.W.other hK (fun k e => ?_), fun i hi => (World.cell?_of_block (hK.block b.Q (Nat.lt_of_lt_of_le h.Qo.2.1 h.W.Bw) (fun e => g4 e.symm))).trans (h.row i hi), h.Qo, h.nd, h.g, h.gd, fun i hi => ?_, fun i hi => ?_, h.has⟩
  · subst e
    exact ⟨g1, g3, fun e => by have := (hlow _ e).1; omega⟩
  · unfold updS
    by_cases c : i = d
    · subst c; rw [if_pos rfl]; exact hN
    · rw [if_neg c]; exact (h.at_ i hi).other hK (h.gd i d hi hd c)
  · unfold updS
    by_cases c : i = d
    · subst c; rw [if_pos rfl]; exact hs
    · rw [if_neg c]; exact h.sN i hi
end Go.Proofs.YtmficdfihogffaaDoor

/- The reference's net: an act, walked. -/
namespace Go.Proofs.YtmficdfihogffaaDoor
open Go.RowKit
set_option linter.unusedVariables false
set_option linter.unusedSimpArgs false
variable {W0 w w' : World} {b : SAd} {A1 A2 : Option Addr} {c1 c2 : Nat} {p t t' : Int} {uv uv' : Value} {us us' : List RLetter} {S : Nat → NSt}
/-- what an act of the reference's net leaves. -/
def SNetDone (W0 w : World) (b : SAd) (A1 A2 : Option Addr) (c1 c2 : Nat) (p : Int) (uv : Value) (c t' : Int) (us' : List RLetter) (S' : Nat → NSt) (e : Ending) (w' : World) : Prop :=
  e = .returned (.int .i64 c) ∧ ∃ uv', SNetAt W0 w' b A1 A2 c1 c2 p t' uv' us' S' ∧ Kept (SMine b uv) w w' ∧ (∀ q, uv'.ownBlock = some q → uv.ownBlock = some q ∨ w.heap.size ≤ q)
theorem drew_cell (W : World) (q : Addr) : W.drew.cell? q = W.cell? q := rfl
theorem smine_kept {k : Nat} (h : Mine b.M uv k) : SMine b uv k := by
  rcases h with e | e
  · exact .inl e
  · exact .inr (.inl e)
def gotL : Option RLetter → RLetter
  | none => ⟨0, 0, false, 0, 0, 0⟩
  | some L => L
theorem gotV_L (got : Option RLetter) : GotV got = .agg #[.int .i64 (gotL got).src, .int .i64 (gotL got).dst, .bool (gotL got).answer, .int .i64 (gotL got).t1, .int .i64 (gotL got).t2, .int .i64 (gotL got).t] := by cases got <;> rfl
set_option maxRecDepth 100000 in
set_option maxHeartbeats 16000000 in
theorem snet_Do_quiet (ss rs : List Int) (A : RAct) (c : Int) (got : Option RLetter) (h : SNetAt W0 w b A1 A2 c1 c2 p t uv us S) (i1 : IsInts W0 A1 b.n c1 ss) (i2 : IsInts W0 A2 b.n c2 rs) (hA : A.ok) (n6 : b.n ≤ 6) (sb : ∀ (i : Nat) z, ss[i]? = some z → 0 ≤ z ∧ z ≤ 1000000) (rb : ∀ (i : Nat) z, rs[i]? = some z → -1000 ≤ z ∧ z ≤ 1000) (hw : WAct b.n ss rs t us A c got t' us') (hq : got = none) :
    Calls Tryd.prog 10 #[.pointer (some ⟨b.M, 0, none⟩), .agg #[.int .i64 A.what, .int .i64 A.a, .int .i64 A.b]] w (SNetDone W0 w b A1 A2 c1 c2 p uv c t' us' S) := by
  have HU := Lib.hid h
  have kM := h.W.blk.lt
  have hW0 : W0.heap.size ≤ w.heap.size := h.W.old.size
  have hown : ∀ u, uv.ownBlock = some u → u < w.heap.size := fun u e => (h.W.low u e).2
  have HOwn := Lib.hid hown
  have HH := Lib.hid (hw.has i1.1 h.has).1
  have HD := Lib.hid (fun W (hb : Below w.heap.size w W) => act_R hw hA n6 sb rb W0 b.M b.B A1 A2 c1 c2 uv W (h.W.below hb) i1 i2)
  rw [gotV_L] at HD
  obtain ⟨G, eG⟩ : ∃ G, gotL got = G := ⟨_, rfl⟩
  obtain ⟨gb, egb⟩ : ∃ q, got.isSome = q := ⟨_, rfl⟩
  rw [eG, egb] at HD
  have HKc := Lib.hid (fun (W W2 : World) (hl : w.heap.size < W.heap.size) (hK : Kept (Mine b.M uv) W W2) o => show W2.cell? ⟨w.heap.size, o, none⟩ = W.cell? ⟨w.heap.size, o, none⟩ from World.cell?_of_block (a := ⟨w.heap.size, o, none⟩) (hK.block w.heap.size hl (fun e => by
    rcases e with e | e
    · omega
    · have := HOwn.out _ e; omega)))
  have HKs := Lib.hid (fun (W : World) (g : Nat) (hg : w.heap.size ≠ g) (o : Nat) => show ((((((W.setCell ⟨g, 0, none⟩ (.int .i64 G.src)).setCell ⟨g, 1, none⟩ (.int .i64 G.dst)).setCell ⟨g, 2, none⟩ (.bool G.answer)).setCell ⟨g, 3, none⟩ (.int .i64 G.t1)).setCell ⟨g, 4, none⟩ (.int .i64 G.t2)).setCell ⟨g, 5, none⟩ (.int .i64 G.t)).cell? ⟨w.heap.size, o, none⟩ = W.cell? ⟨w.heap.size, o, none⟩ from by
    have hne : ∀ i, (⟨g, i, none⟩ : Addr) ≠ ⟨w.heap.size, o, none⟩ := fun i e => hg (by injection e with e1; exact e1.symm)
    rw [World.cell?_setCell_other _ _ _ _ (hne _), World.cell?_setCell_other _ _ _ _ (hne _), World.cell?_setCell_other _ _ _ _ (hne _), World.cell?_setCell_other _ _ _ _ (hne _), World.cell?_setCell_other _ _ _ _ (hne _), World.cell?_setCell_other _ _ _ _ (hne _)])
  clear h hw hown i1 i2
  go_enter Tryd.func10, Tryd.ntmps10
  go_upto_region 2 with fail
  go_cut [5, 6, 7] (fun pv iv ev wx => ∃ (g : Nat) (uv' : Value), pv = .pointer (some ⟨g, 0, none⟩) ∧ iv = .bool gb ∧ ev = .int .i64 c ∧ Blk wx g 87 #[.int .i64 G.src, .int .i64 G.dst, .bool G.answer, .int .i64 G.t1, .int .i64 G.t2, .int .i64 G.t] ∧ w.heap.size ≤ g ∧ uv'.ownBlock ≠ some g ∧ RWorld b.qv W0 wx b.M b.B b.n A1 A2 c1 c2 t' uv' us' ∧ Kept (Mine b.M uv) w wx ∧ (∀ q, uv'.ownBlock = some q → uv.ownBlock = some q ∨ w.heap.size ≤ q))
  case first =>
    go_wp2_with fail
    obtain ⟨W1, hW1⟩ : ∃ W, w.alloc (.cells #[.int .i64 A.what, .int .i64 A.a, .int .i64 A.b] 35) = W := ⟨_, rfl⟩
    have HB1 : Below w.heap.size w W1 := by rw [← hW1]; exact (by repeat (first | with_reducible exact Below.refl _ _ | (with_reducible refine Below.alloc ?_ (by first | omega | (simp; done) | (simp; omega)) _) | (with_reducible refine Below.setCell ?_ (by first | omega | (simp; done) | (simp; omega)) _) | (with_reducible refine Below.drew ?_) | (with_reducible refine below_drewN ?_ _) | (with_reducible assumption) | (with_reducible refine bel_step (by with_reducible assumption) ?_ (by first | omega | (simp; done) | (simp; omega)))))
    have hsl : w.heap.size < W1.heap.size := by rw [← hW1]; simp
    have bx : Blk W1 w.heap.size 35 #[.int .i64 A.what, .int .i64 A.a, .int .i64 A.b] := by rw [← hW1]; exact Blk.new w _ _
    have x0 : W1.cell? ⟨w.heap.size, 0, none⟩ = some (.int .i64 A.what) := bx.cell 0
    have x1 : W1.cell? ⟨w.heap.size, 1, none⟩ = some (.int .i64 A.a) := bx.cell 1
    have x2 : W1.cell? ⟨w.heap.size, 2, none⟩ = some (.int .i64 A.b) := bx.cell 2
    rw [hW1]
    clear hW1 bx
    refine wp_region_held_drew (S := fun w9 => w9.cell? ⟨w.heap.size, 0, none⟩ = some (.int .i64 A.what) ∧ w9.cell? ⟨w.heap.size, 1, none⟩ = some (.int .i64 A.a) ∧ w9.cell? ⟨w.heap.size, 2, none⟩ = some (.int .i64 A.b)) (by kernel_rfl) (⟨x0, x1, x2⟩) (fun hHeld => ?_)
    refine take_d (i := 0) (v := (.pointer (some ⟨b.M, 0, none⟩))) (d := some 10) rfl (by kernel_rfl) (by kernel_rfl) (by kernel_rfl) (by kernel_rfl) (fun _ _ _ h => h) (Or.inl ⟨by kernel_rfl, fun w9 hw9 => by (go_simp)⟩) hHeld ?_
    try simp only [Act.put, List.setIfInBounds_toArray, List.set_cons_zero, List.set_cons_succ]
    refine take_d (i := 1) (v := (.pointer (some ⟨b.M, 0, none⟩))) (d := some 11) rfl (by kernel_rfl) (by kernel_rfl) (by kernel_rfl) (by kernel_rfl) (fun _ _ _ h => h) (Or.inl ⟨by kernel_rfl, fun w9 hw9 => by (go_simp)⟩) hHeld ?_
    try simp only [Act.put, List.setIfInBounds_toArray, List.set_cons_zero, List.set_cons_succ]
    refine take_d (i := 2) (v := (.pointer (some ⟨b.M, 0, none⟩))) (d := some 12) rfl (by kernel_rfl) (by kernel_rfl) (by kernel_rfl) (by kernel_rfl) (fun _ _ _ h => h) (Or.inl ⟨by kernel_rfl, fun w9 hw9 => by (go_simp)⟩) hHeld ?_
    try simp only [Act.put, List.setIfInBounds_toArray, List.set_cons_zero, List.set_cons_succ]
    refine take_d (i := 3) (v := (.agg #[.int .i64 A.what, .int .i64 A.a, .int .i64 A.b])) (d := some 13) rfl (by kernel_rfl) (by kernel_rfl) (by kernel_rfl) (by kernel_rfl) (fun _ _ _ h => h) (Or.inl ⟨by kernel_rfl, fun w9 hw9 => by (obtain ⟨a0, a1, a2⟩ := hw9; go_simp)⟩) hHeld ?_
    try simp only [Act.put, List.setIfInBounds_toArray, List.set_cons_zero, List.set_cons_succ]
    try simp only [Act.put, List.setIfInBounds_toArray, List.set_cons_zero, List.set_cons_succ]
    refine wpAnyH_ready (rs := [4, 9]) (by kernel_rfl) (by simp) ?_
    refine AllReadyH.cons rfl (fun K hK => ?_) (AllReadyH.cons rfl (fun K hK => ?_) AllReadyH.nil)
    · go_simp
      refine (HD.out _ HB1.drew).mono ?_
      rintro e w2 ⟨rfl, uv', hR2, hK2, hq2⟩
      have z0 := (HKc.out W1.drew _ hsl hK2 0).trans x0
      have z1 := (HKc.out W1.drew _ hsl hK2 1).trans x1
      have z2 := (HKc.out W1.drew _ hsl hK2 2).trans x2
      refine hK.out _ _ ⟨z0, z1, z2⟩ (fun hHeld2 => ?_)
      clear hK K hHeld
      have hHeld := hHeld2
      clear hHeld2
      try simp only [Act.put, List.setIfInBounds_toArray, List.set_cons_zero, List.set_cons_succ]
      refine take_d (i := 5) (v := (.tuple #[.agg #[.int .i64 G.src, .int .i64 G.dst, .bool G.answer, .int .i64 G.t1, .int .i64 G.t2, .int .i64 G.t], .bool gb, .int .i64 c])) (d := some 9) rfl (by kernel_rfl) (by kernel_rfl) (by kernel_rfl) (by kernel_rfl) (fun _ _ _ h => h) (Or.inl ⟨by kernel_rfl, fun w9 hw9 => by (go_simp)⟩) hHeld ?_
      try simp only [Act.put, List.setIfInBounds_toArray, List.set_cons_zero, List.set_cons_succ]
      refine take_d (i := 6) (v := (.agg #[.int .i64 G.src, .int .i64 G.dst, .bool G.answer, .int .i64 G.t1, .int .i64 G.t2, .int .i64 G.t])) (d := some 15) rfl (by kernel_rfl) (by kernel_rfl) (by kernel_rfl) (by kernel_rfl) (fun _ _ _ h => h) (Or.inl ⟨by kernel_rfl, fun w9 hw9 => by (go_simp)⟩) hHeld ?_
      try simp only [Act.put, List.setIfInBounds_toArray, List.set_cons_zero, List.set_cons_succ]
      refine take_d (i := 7) (v := (.bool gb)) (d := some 16) rfl (by kernel_rfl) (by kernel_rfl) (by kernel_rfl) (by kernel_rfl) (fun _ _ _ h => h) (Or.inl ⟨by kernel_rfl, fun w9 hw9 => by (go_simp)⟩) hHeld ?_
      try simp only [Act.put, List.setIfInBounds_toArray, List.set_cons_zero, List.set_cons_succ]
      refine take_d (i := 8) (v := (.int .i64 c)) (d := some 17) rfl (by kernel_rfl) (by kernel_rfl) (by kernel_rfl) (by kernel_rfl) (fun _ _ _ h => h) (Or.inl ⟨by kernel_rfl, fun w9 hw9 => by (go_simp)⟩) hHeld ?_
      try simp only [Act.put, List.setIfInBounds_toArray, List.set_cons_zero, List.set_cons_succ]
      have hs2 : W1.heap.size ≤ w2.heap.size := hK2.size
      have hl2 : w.heap.size < w2.heap.size := by omega
      try simp only [Act.put, List.setIfInBounds_toArray, List.set_cons_zero, List.set_cons_succ]
      refine wpAnyH_ready (rs := [9]) (by kernel_rfl) (by simp) ?_
      refine AllReadyH.cons rfl (fun K hK => ?_) AllReadyH.nil
      go_simp
      refine hK.out _ _ ⟨(World.cell?_alloc_lt _ _ ⟨w.heap.size, 0, none⟩ hl2).trans z0, (World.cell?_alloc_lt _ _ ⟨w.heap.size, 1, none⟩ hl2).trans z1, (World.cell?_alloc_lt _ _ ⟨w.heap.size, 2, none⟩ hl2).trans z2⟩ (fun hHeld2 => ?_)
      clear hK K hHeld
      have hHeld := hHeld2
      clear hHeld2
      try simp only [Act.put, List.setIfInBounds_toArray, List.set_cons_zero, List.set_cons_succ]
      refine wpAnyH_ready (rs := [10]) (by kernel_rfl) (by simp) ?_
      refine AllReadyH.cons rfl (fun K hK => ?_) AllReadyH.nil
      go_simp
      refine hK.out _ _ ⟨(World.cell?_alloc_lt _ _ ⟨w.heap.size, 0, none⟩ hl2).trans z0, (World.cell?_alloc_lt _ _ ⟨w.heap.size, 1, none⟩ hl2).trans z1, (World.cell?_alloc_lt _ _ ⟨w.heap.size, 2, none⟩ hl2).trans z2⟩ (fun hHeld2 => ?_)
      clear hK K hHeld
      have hHeld := hHeld2
      clear hHeld2
      try simp only [Act.put, List.setIfInBounds_toArray, List.set_cons_zero, List.set_cons_succ]
      refine take_d (i := 11) (v := (.bool gb)) (d := some 6) rfl (by kernel_rfl) (by kernel_rfl) (by kernel_rfl) (by kernel_rfl) (fun _ _ _ h => h) (Or.inl ⟨by kernel_rfl, fun w9 hw9 => by (go_simp)⟩) hHeld ?_
      try simp only [Act.put, List.setIfInBounds_toArray, List.set_cons_zero, List.set_cons_succ]
      refine take_d (i := 12) (v := (.int .i64 c)) (d := some 7) rfl (by kernel_rfl) (by kernel_rfl) (by kernel_rfl) (by kernel_rfl) (fun _ _ _ h => h) (Or.inl ⟨by kernel_rfl, fun w9 hw9 => by (go_simp)⟩) hHeld ?_
      try simp only [Act.put, List.setIfInBounds_toArray, List.set_cons_zero, List.set_cons_succ]
      refine wpAnyH_done (by kernel_rfl) ?_ _
      try simp only [Act.put, List.setIfInBounds_toArray, List.set_cons_zero, List.set_cons_succ]
      have hKw : Kept (Mine b.M uv) w w2 := ((Kept.refl _ w).below HB1).trans (((Kept.refl (Mine b.M uv) W1).drew).trans hK2 (fun k e => .inl e)) (fun k e => .inl e)
      have hbl := (Below.refl w2.heap.size w2).alloc (Nat.le_refl _) (.cells #[.int .i64 G.src, .int .i64 G.dst, .bool G.answer, .int .i64 G.t1, .int .i64 G.t2, .int .i64 G.t] 87)
      have HR3 := Lib.hid (hR2.below hbl)
      have HK3 := Lib.hid (hKw.below hbl)
      have HQ3 := Lib.hid (show ∀ q, uv'.ownBlock = some q → uv.ownBlock = some q ∨ w.heap.size ≤ q from fun q e => (hq2 q e).imp id (fun h9 => by have : W1.heap.size ≤ q := h9; omega))
      have HU3 := Lib.hid (fun q e => (hR2.low q e).2)
      clear hK2 hKw hbl hR2 hq2 z0 z1 z2 hHeld
      go_wp2_with fail
      go_meet
      case rel => exact ⟨_, uv', rfl, rfl, rfl, Blk.new _ _ _, by omega, fun e => by have := HU3.out _ e; omega, HR3.out, HK3.out, HQ3.out⟩
    · go_simp
      refine hK.out _ _ ⟨(World.cell?_alloc_lt _ _ ⟨w.heap.size, 0, none⟩ hsl).trans x0, (World.cell?_alloc_lt _ _ ⟨w.heap.size, 1, none⟩ hsl).trans x1, (World.cell?_alloc_lt _ _ ⟨w.heap.size, 2, none⟩ hsl).trans x2⟩ (fun hHeld2 => ?_)
      clear hK K hHeld
      have hHeld := hHeld2
      clear hHeld2
      try simp only [Act.put, List.setIfInBounds_toArray, List.set_cons_zero, List.set_cons_succ]
      refine wpAnyH_ready (rs := [4]) (by kernel_rfl) (by simp) ?_
      refine AllReadyH.cons rfl (fun K hK => ?_) AllReadyH.nil
      go_simp
      refine (HD.out _ (by exact (by repeat (first | with_reducible exact Below.refl _ _ | (with_reducible refine Below.alloc ?_ (by first | omega | (simp; done) | (simp; omega)) _) | (with_reducible refine Below.setCell ?_ (by first | omega | (simp; done) | (simp; omega)) _) | (with_reducible refine Below.drew ?_) | (with_reducible refine below_drewN ?_ _) | (with_reducible assumption) | (with_reducible refine bel_step (by with_reducible assumption) ?_ (by first | omega | (simp; done) | (simp; omega))))))).mono ?_
      rintro e w2 ⟨rfl, uv', hR2, hK2, hq2⟩
      have hs2 : W1.heap.size + 1 ≤ w2.heap.size := by have := hK2.size; simp at this; omega
      have z0 := (HKc.out _ _ (by simp; omega) hK2 0).trans ((World.cell?_alloc_lt W1 _ ⟨w.heap.size, 0, none⟩ hsl).trans x0)
      have z1 := (HKc.out _ _ (by simp; omega) hK2 1).trans ((World.cell?_alloc_lt W1 _ ⟨w.heap.size, 1, none⟩ hsl).trans x1)
      have z2 := (HKc.out _ _ (by simp; omega) hK2 2).trans ((World.cell?_alloc_lt W1 _ ⟨w.heap.size, 2, none⟩ hsl).trans x2)
      have bz : Blk w2 W1.heap.size 87 #[.int .i64 0, .int .i64 0, .bool false, .int .i64 0, .int .i64 0, .int .i64 0] := (hK2.block W1.heap.size (by simp) (fun e => by
        rcases e with e | e
        · omega
        · have := HOwn.out _ e; omega)).trans (Blk.new W1 _ _)
      have t0 := bz.cell 0
      have t1 := bz.cell 1
      have t2 := bz.cell 2
      have t3 := bz.cell 3
      have t4 := bz.cell 4
      have t5 := bz.cell 5
      simp at t0 t1 t2 t3 t4 t5
      have tf := fun o => bz.fz o
      have tl := bz.lt
      have HBZ := Lib.hid bz
      clear bz
      refine hK.out _ _ ⟨z0, z1, z2⟩ (fun hHeld2 => ?_)
      clear hK K hHeld
      have hHeld := hHeld2
      clear hHeld2
      try simp only [Act.put, List.setIfInBounds_toArray, List.set_cons_zero, List.set_cons_succ]
      refine take_d (i := 5) (v := (.tuple #[.agg #[.int .i64 G.src, .int .i64 G.dst, .bool G.answer, .int .i64 G.t1, .int .i64 G.t2, .int .i64 G.t], .bool gb, .int .i64 c])) (d := some 9) rfl (by kernel_rfl) (by kernel_rfl) (by kernel_rfl) (by kernel_rfl) (fun _ _ _ h => h) (Or.inl ⟨by kernel_rfl, fun w9 hw9 => by (go_simp)⟩) hHeld ?_
      try simp only [Act.put, List.setIfInBounds_toArray, List.set_cons_zero, List.set_cons_succ]
      refine take_d (i := 6) (v := (.agg #[.int .i64 G.src, .int .i64 G.dst, .bool G.answer, .int .i64 G.t1, .int .i64 G.t2, .int .i64 G.t])) (d := some 15) rfl (by kernel_rfl) (by kernel_rfl) (by kernel_rfl) (by kernel_rfl) (fun _ _ _ h => h) (Or.inl ⟨by kernel_rfl, fun w9 hw9 => by (go_simp)⟩) hHeld ?_
      try simp only [Act.put, List.setIfInBounds_toArray, List.set_cons_zero, List.set_cons_succ]
      refine take_d (i := 7) (v := (.bool gb)) (d := some 16) rfl (by kernel_rfl) (by kernel_rfl) (by kernel_rfl) (by kernel_rfl) (fun _ _ _ h => h) (Or.inl ⟨by kernel_rfl, fun w9 hw9 => by (go_simp)⟩) hHeld ?_
      try simp only [Act.put, List.setIfInBounds_toArray, List.set_cons_zero, List.set_cons_succ]
      refine take_d (i := 8) (v := (.int .i64 c)) (d := some 17) rfl (by kernel_rfl) (by kernel_rfl) (by kernel_rfl) (by kernel_rfl) (fun _ _ _ h => h) (Or.inl ⟨by kernel_rfl, fun w9 hw9 => by (go_simp)⟩) hHeld ?_
      try simp only [Act.put, List.setIfInBounds_toArray, List.set_cons_zero, List.set_cons_succ]
      try simp only [Act.put, List.setIfInBounds_toArray, List.set_cons_zero, List.set_cons_succ]
      refine wpAnyH_ready (rs := [10]) (by kernel_rfl) (by simp) ?_
      refine AllReadyH.cons rfl (fun K hK => ?_) AllReadyH.nil
      go_simp
      refine hK.out _ _ ⟨(HKs.out w2 W1.heap.size (Nat.ne_of_lt hsl) 0).trans z0, (HKs.out w2 W1.heap.size (Nat.ne_of_lt hsl) 1).trans z1, (HKs.out w2 W1.heap.size (Nat.ne_of_lt hsl) 2).trans z2⟩ (fun hHeld2 => ?_)
      clear hK K hHeld
      have hHeld := hHeld2
      clear hHeld2
      try simp only [Act.put, List.setIfInBounds_toArray, List.set_cons_zero, List.set_cons_succ]
      refine take_d (i := 11) (v := (.bool gb)) (d := some 6) rfl (by kernel_rfl) (by kernel_rfl) (by kernel_rfl) (by kernel_rfl) (fun _ _ _ h => h) (Or.inl ⟨by kernel_rfl, fun w9 hw9 => by (go_simp)⟩) hHeld ?_
      try simp only [Act.put, List.setIfInBounds_toArray, List.set_cons_zero, List.set_cons_succ]
      refine take_d (i := 12) (v := (.int .i64 c)) (d := some 7) rfl (by kernel_rfl) (by kernel_rfl) (by kernel_rfl) (by kernel_rfl) (fun _ _ _ h => h) (Or.inl ⟨by kernel_rfl, fun w9 hw9 => by (go_simp)⟩) hHeld ?_
      try simp only [Act.put, List.setIfInBounds_toArray, List.set_cons_zero, List.set_cons_succ]
      refine wpAnyH_done (by kernel_rfl) ?_ _
      try simp only [Act.put, List.setIfInBounds_toArray, List.set_cons_zero, List.set_cons_succ]
      have hKw : Kept (Mine b.M uv) w w2 := ((Kept.refl _ w).below HB1).trans ((((Kept.refl (Mine b.M uv) W1).alloc _).drew).trans hK2 (fun k e => .inl e)) (fun k e => .inl e)
      have hKs := (((((((Kept.refl (fun k => k = W1.heap.size) w2).set W1.heap.size 0 (.int .i64 G.src) (.inl rfl)).set W1.heap.size 1 (.int .i64 G.dst) (.inl rfl)).set W1.heap.size 2 (.bool G.answer) (.inl rfl)).set W1.heap.size 3 (.int .i64 G.t1) (.inl rfl)).set W1.heap.size 4 (.int .i64 G.t2) (.inl rfl)).set W1.heap.size 5 (.int .i64 G.t) (.inl rfl))
      have HB3 := Lib.hid ((((((((HBZ.out.set 0 (.int .i64 G.src)).set 1 (.int .i64 G.dst)).set 2 (.bool G.answer)).set 3 (.int .i64 G.t1)).set 4 (.int .i64 G.t2)).set 5 (.int .i64 G.t))).conv (show _ = #[.int .i64 G.src, .int .i64 G.dst, .bool G.answer, .int .i64 G.t1, .int .i64 G.t2, .int .i64 G.t] from rfl))
      have HQ3 := Lib.hid (show ∀ q, uv'.ownBlock = some q → uv.ownBlock = some q ∨ w.heap.size ≤ q from fun q e => (hq2 q e).imp id (fun h9 => by simp at h9; omega))
      have hun : uv'.ownBlock ≠ some W1.heap.size := fun e => by
        rcases hq2 _ e with e2 | e2
        · have := HOwn.out _ e2; omega
        · simp at e2; omega
      have HR3 := Lib.hid (hR2.other hKs (fun k e => by subst e; exact ⟨by omega, by omega, hun⟩))
      have HK3 := Lib.hid (hKw.trans hKs (fun k e => .inr (by rw [e]; omega)))
      have hgw : w.heap.size ≤ W1.heap.size := by omega
      clear hK2 hKw hKs hR2 hq2 z0 z1 z2 hHeld t0 t1 t2 t3 t4 t5 tf tl
      go_wp2_with fail
      go_meet
      case rel => exact ⟨_, uv', rfl, rfl, rfl, HB3.out, hgw, hun, HR3.out, HK3.out, HQ3.out⟩
  case rest =>
    obtain ⟨g, uv', rfl, rfl, rfl, hbL, hg, hun, hR, hK, hq'⟩ := hcut
    obtain ⟨w3, hw3⟩ : ∃ x : World, x = wc := ⟨_, rfl⟩
    subst hw3
    have hgb : gb = false := by rw [← egb, hq]; rfl
    have HN := Lib.hid (HU.out.world hR hK HH.out)
    have HK3 := Lib.hid (show Kept (SMine b uv) w w3 from (Kept.refl _ w).trans hK (fun k e => .inl (smine_kept e)))
    have HQ3 := Lib.hid hq'
    clear hR hK hq' hbL hun eG egb hq
    subst hgb
    by_cases hc : c = 0
    · have b1 : (c != 0) = false := by simp [hc]
      have b2 : decide (c = 0) = true := by simp [hc]
      clear hc
      go_wp2_with fail
      go_ret
      exact ⟨rfl, uv', HN.out, HK3.out, HQ3.out⟩
    · have b1 : (c != 0) = true := by simp [hc]
      have b2 : decide (c = 0) = false := by simp [hc]
      clear hc
      go_wp2_with fail
      go_ret
      exact ⟨rfl, uv', HN.out, HK3.out, HQ3.out⟩
end Go.Proofs.YtmficdfihogffaaDoor

/- The reference's net that is being made. -/
namespace Go.Proofs.YtmficdfihogffaaDoor
open Go.RowKit
set_option linter.unusedVariables false
set_option linter.unusedSimpArgs false
theorem infoRN : (Tryd.prog.info? 77).map (fun i => (i.zero, i.size, i.bytes)) = some (some (.pointer none), 1, 8) := by kernel_rfl
/-- the first i nodes of the reference's net. -/
structure SMaking (w : World) (M n i : Nat) (A1 A2 : Option Addr) (c1 c2 : Nat) (p : Int) (v : Value) (gi : Nat → Nat) : Prop where
  net : Blk w M 58 #[.slice A1 n c1, .slice A2 n c2, .int .i64 0, .slice none 0 0, v]
  row : w.ownsRow (M + 1) 77 1 v i ((List.range i).map fun j => .pointer (some ⟨gi j, 0, none⟩))
  nd : ∀ j, j < i → RNodeAt w (gi j) (NSt.start n j p) ∧ M < gi j
  du : ∀ u, v.ownBlock = some u → ∀ j, j < i → u ≠ gi j
  dd : ∀ j k, j < i → k < i → j ≠ k → gi j ≠ gi k
theorem SMaking.step {w w2 w5 : World} {M n i gg cap ng : Nat} {A1 A2 : Option Addr} {c1 c2 : Nat} {p : Int} {v : Value} {gi : Nat → Nat} (h : SMaking w M n i A1 A2 c1 c2 p v gi) (hb : Below w.heap.size w w2) (hn : RNodeAt w2 ng (NSt.start n i p)) (h1 : w.heap.size ≤ ng)
    (hg5 : (w2.alloc (.cells #[.pointer (some ⟨ng, 0, none⟩)] 77)).grownBy w5 v.ownBlock) (hgg : v.ownBlock = some gg ∨ gg = (w2.alloc (.cells #[.pointer (some ⟨ng, 0, none⟩)] 77)).heap.size)
    (ho5 : w5.ownsRow (M + 1) 77 1 (.slice (some ⟨gg, 0, none⟩) (i + 1) cap) (i + 1) (((List.range i).map fun j => .pointer (some ⟨gi j, 0, none⟩)) ++ [.pointer (some ⟨ng, 0, none⟩)])) :
    SMaking (w5.setCell ⟨M, 4, none⟩ (.slice (some ⟨gg, 0, none⟩) (i + 1) cap)) M n (i + 1) A1 A2 c1 c2 p (.slice (some ⟨gg, 0, none⟩) (i + 1) cap) (fun j => if j = i then ng else gi j) := by
  have hNl := h.net.lt
  have hs2 := hb.size
  have hlt : ∀ u, v.ownBlock = some u → M + 1 ≤ u ∧ u < w.heap.size := h.row.lt
  have hNu : some M ≠ v.ownBlock := fun e => by have := (hlt M e.symm).1; omega
  have hgs : gg = w2.heap.size + 1 ∨ v.ownBlock = some gg := by
    rcases hgg with e | e
    · exact .inr e
    · left; simpa using e
  have hngl := hn.blk.lt
  have keep : ∀ k, k < w2.heap.size → some k ≠ v.ownBlock → w5.heap[k]? = w2.heap[k]? := fun k hk hne => (hg5.block k (by simp; omega) hne).trans (Below.heap_alloc w2 _ k hk)
  have hng : some ng ≠ v.ownBlock := fun e => by have := (hlt ng e.symm).2; omega
  refine ⟨?_, ?_, fun j hj => ?_, fun u e j hj => ?_, fun j k hj hk hne => ?_⟩
  · have hN5 : Blk w5 M 58 #[.slice A1 n c1, .slice A2 n c2, .int .i64 0, .slice none 0 0, v] := (keep M (by omega) hNu).trans (h.net.below hb hNl)
    exact (hN5.set 4 _).conv rfl
  · have e : ((List.range (i + 1)).map fun j => Value.pointer (some ⟨if j = i then ng else gi j, 0, none⟩)) = ((List.range i).map fun j => .pointer (some ⟨gi j, 0, none⟩)) ++ [.pointer (some ⟨ng, 0, none⟩)] := by
      rw [List.range_succ, List.map_append]
      congr 1
      · exact map_congr_range fun j hj => by rw [if_neg (by omega)]
      · simp
    rw [e]
    exact own_touched ho5 ((Touched.refl M w5).set 4 _) (by omega)
  · by_cases c : j = i
    · subst c
      simp only [if_pos]
      exact ⟨⟨Blk.far (g := ng) ((keep ng hngl hng).trans hn.blk) (p := ⟨M, 4, none⟩) (by show ng ≠ M; omega) _, hn.ok⟩, by omega⟩
    · simp only [if_neg c]
      obtain ⟨hj1, hj2⟩ := h.nd j (by omega)
      have hg := hj1.blk.lt
      have d := fun (u : Nat) (e : v.ownBlock = some u) => h.du u e j (by omega)
      have hj4 := hj1.below hb
      exact ⟨⟨Blk.far (g := gi j) ((keep _ (by omega) (fun e => d _ e.symm rfl)).trans hj4.blk) (p := ⟨M, 4, none⟩) (by show gi j ≠ M; omega) _, hj1.ok⟩, hj2⟩
  · have eu : gg = u := by simpa [Value.ownBlock] using e
    subst eu
    by_cases c : j = i
    · simp only [if_pos c]
      rcases hgs with e2 | e2
      · omega
      · have := (hlt _ e2).2; omega
    · simp only [if_neg c]
      have hg := (h.nd j (by omega)).1.blk.lt
      rcases hgs with e2 | e2
      · omega
      · exact h.du _ e2 j (by omega)
  · by_cases c : j = i
    · by_cases c' : k = i
      · omega
      · simp only [if_pos c, if_neg c']
        have := (h.nd k (by omega)).1.blk.lt; omega
    · by_cases c' : k = i
      · simp only [if_neg c, if_pos c']
        have := (h.nd j (by omega)).1.blk.lt; omega
      · simp only [if_neg c, if_neg c']
        exact h.dd j k (by omega) (by omega) hne
set_option maxRecDepth 100000 in
set_option maxHeartbeats 8000000 in
theorem snet_New (A : Option Addr) (n c : Nat) (zs : List Int) (A2 : Option Addr) (n2 c2 : Nat) (ys : List Int) (p : Int) (w : World) (h : IsInts w A n c zs) (h2 : IsInts w A2 n2 c2 ys) (hc : newC zs ys p = 0) :
    Calls Tryd.prog 8 #[.slice A n c, .slice A2 n2 c2, .int .i64 p] w fun e w' => ∃ b : SAd, e = .returned (.pointer (some ⟨b.M, 0, none⟩)) ∧ b.n = n ∧ SNetAt w w' b A A2 c c2 p 0 (.slice none 0 0) [] (fun i => NSt.start n i p) ∧ Below w.heap.size w w' := by
  obtain ⟨i0, hi, hz0, hz1, hz2⟩ := info_parts infoRN
  obtain ⟨r1, r2, r3, r4, r5⟩ := newC_0 hc
  obtain ⟨p0, p1⟩ := rateB_iff.1 r1
  have hn1 : 1 ≤ n := by rw [← h.1]; exact r2
  have hn6 : n ≤ 6 := by rw [← h.1]; exact r3
  obtain rfl : n2 = n := by rw [← h.1, ← h2.1]; exact r4
  clear h h2 hc r1 r2 r3 r4 r5
  go_enter Tryd.func8, Tryd.ntmps8
  go_wp2_with fail
  obtain ⟨w2, hw2⟩ : ∃ W, (w.alloc (.cells #[.slice A n2 c, .slice A2 n2 c2, .int .i64 0, .slice none 0 0, .slice none 0 0] 58)) = W := ⟨_, rfl⟩
  have hM : SMaking w2 w.heap.size n2 0 A A2 c c2 p (.slice none 0 0) (fun _ => 0) := ⟨by rw [← hw2]; exact Blk.new w _ _, own_nil _ _ _ _, fun j hj => absurd hj (by omega), fun u e j hj => absurd hj (by omega), fun j k hj => absurd hj (by omega)⟩
  have hB2 : Below w.heap.size w w2 := by rw [← hw2]; exact (Below.refl _ _).alloc (Nat.le_refl _) _
  have HM := Lib.hid hM
  have HB2 := Lib.hid hB2
  rw [hw2]
  clear hM hB2 hw2
  go_loopw [8] (fun iv wr => ∃ (i : Nat) (v : Value) (gi : Nat → Nat), iv = .int .i64 i ∧ i ≤ n2 ∧ SMaking wr w.heap.size n2 i A A2 c c2 p v gi ∧ Below w.heap.size w wr) (fun iv _ => n2 - (intOf iv).toNat)
  case atStart => exact ⟨0, _, _, rfl, by omega, HM.out, HB2.out⟩
  case round =>
    obtain ⟨i, v, gi, rfl, hi', hM, hB⟩ := hrel
    have HMi := Lib.hid hM
    have HBi := Lib.hid hB
    have hzr := hB.size
    have hNl := hM.net.lt
    by_cases d1 : i < n2
    · have g1 : (i : Int) < (n2 : Int) := by omega
      obtain ⟨AO, cO, rfl, hAc, hcm⟩ := own_slice hM.row
      unfold maxLen at hcm
      have y1 : wr.cell? ⟨w.heap.size, 4, none⟩ = some (.slice AO i cO) := HMi.out.net.cell 4
      have yf : wr.frozen? ⟨w.heap.size, 4, none⟩ = false := HMi.out.net.fz 4
      have HLow := Lib.hid (fun u (e : (Value.slice AO i cO).ownBlock = some u) => (HMi.out.row.lt u e).1)
      obtain ⟨w3, hw3⟩ : ∃ W, wr.alloc (.cells #[.int .i64 i, .int .i64 n2, .int .i64 p, .int .i64 (-1), .bool false, .bool false, .bool false, .bool false, .bool false, .bool false, .int .i64 0, .int .i64 0, .int .i64 0, .int .i64 0, .int .i64 0, .int .i64 0, .int .i64 0, .int .i64 0, .int .i64 0, .int .i64 0, .int .i64 0, .int .i64 0, .int .i64 0, .int .i64 0, .int .i64 0, .int .i64 0, .int .i64 0, .int .i64 0] 82) = W := ⟨_, rfl⟩
      have hb3 : Below wr.heap.size wr w3 := by rw [← hw3]; exact (Below.refl _ _).alloc (Nat.le_refl _) _
      have hn3 : RNodeAt w3 wr.heap.size (NSt.start n2 i p) := ⟨by rw [← hw3]; exact (Blk.new wr _ _).conv rfl, NSt.start_ok hn1 hn6 d1 p0 p1⟩
      have hs3 : wr.heap.size < w3.heap.size := by rw [← hw3]; simp
      have hM3 : w.heap.size < w3.heap.size := by omega
      have z1 := (hb3.cell (p := ⟨w.heap.size, 4, none⟩) hNl).trans y1
      have zf : w3.frozen? ⟨w.heap.size, 4, none⟩ = false := (HMi.out.net.below hb3 hNl).fz 4
      have HO := Lib.hid (own_below HMi.out.row hb3)
      have HB3 := Lib.hid hb3
      have HN3 := Lib.hid hn3
      clear hM hB hb3 hn3
      go_wp2_with (at_builtin; refine wpList_append_lies _ rfl _ _ 56 rfl (w.heap.size + 1) 77 i0 (.pointer none) 1 8 Tryd.underlying56 hi hz0 hz1 hz2 rfl (by decide) (.slice AO i cO) i ((List.range i).map fun j => .pointer (some ⟨gi j, 0, none⟩)) rfl ((HO.out).alloc _) ⟨w3.heap.size, 0, none⟩ 1 1 [.pointer (some ⟨wr.heap.size, 0, none⟩)] rfl rfl (by exact cell_newAt w3 [.pointer (some ⟨wr.heap.size, 0, none⟩)] _ _ rfl) (by intro u hu; rw [List.mem_singleton] at hu; subst hu; rfl) (by decide) (by unfold maxLen; omega) (by omega) (by simp; omega) _ rfl ?_; intro gg cap w5 ho5 hg5 hgg hlt5; have hNne : some w.heap.size ≠ (Value.slice AO i cO).ownBlock := (fun e => by have := HLow.out _ e.symm; omega); have y5 : w5.cell? ⟨w.heap.size, 4, none⟩ = some (.slice AO i cO) := hg5.cell ((World.cell?_alloc_lt _ _ ⟨w.heap.size, 4, none⟩ hM3).trans z1) hNne; have yf5 : w5.frozen? ⟨w.heap.size, 4, none⟩ = false := (World.frozen?_of_block (hg5.block w.heap.size (by simp; omega) hNne)).trans ((World.frozen?_of_block (Below.heap_alloc w3 _ w.heap.size hM3)).trans zf))
      have HMs := Lib.hid (HMi.out.step HB3.out HN3.out (Nat.le_refl _) hg5 hgg ho5)
      have HB6 := Lib.hid (show Below w.heap.size w (w5.setCell ⟨w.heap.size, 4, none⟩ (.slice (some ⟨gg, 0, none⟩) (i + 1) cap)) from
        (((HBi.out.trans (HB3.out.mono hzr)).alloc (by omega) _).grown hg5 (by simp; omega) (fun k hk => by have := HLow.out k hk; omega)).setCell (by show w.heap.size ≤ w.heap.size; omega) _)
      clear ho5 hg5 hgg y5 yf5 y1 yf z1 zf HO hw3
      go_roundw
      case rel => exact ⟨i + 1, _, _, by go_num, by omega, HMs.out, HB6.out⟩
      case measure => go_light; simp [intOf]; omega
    · obtain rfl : i = n2 := by omega
      have hlow := hM.row.lt
      have hcl := fun {q : Nat} (hq : v.ownBlock = some q) => hM.row.cells hq
      rcases hM.row.2 with ⟨rfl, hn⟩ | ⟨q, cap, cur, rfl, hBq, hg, hnc, hcm, hs, ht⟩
      · omega
      · have hq := hlow q rfl
        have HCl := Lib.hid (fun j (hj : j < i) => show wr.cell? ⟨q, j, none⟩ = some (.pointer (some ⟨gi j, 0, none⟩)) by
          have hx := hcl (q := q) rfl j (.pointer (some ⟨gi j, 0, none⟩)) (by rw [List.getElem?_map, List.getElem?_range hj]; rfl)
          rw [show (⟨q, 0, none⟩ : Addr).add j = ⟨q, j, none⟩ by unfold Addr.add; split <;> simp_all] at hx
          exact hx)
        clear hM hB hcl hlow hBq hg hs ht
        go_wp2_with fail
        go_ret
        refine ⟨⟨w.heap.size, wr.heap.size, q, i, cap, gi⟩, rfl, rfl, ⟨⟨HMi.out.net, HBi.out, Nat.le_refl _, hNl, Nat.le_refl _, own_nil _ _ _ _, by simp, by simp, by omega, by omega⟩, fun j hj => HCl.out j hj, ⟨by show w.heap.size ≤ q; omega, hq.2, by show q ≠ w.heap.size; omega⟩, ⟨hnc, hcm⟩, fun j hj => ?_, fun j k hj hk hne => HMi.out.dd j k hj hk hne, fun j hj => (HMi.out.nd j hj).1, fun j hj => ⟨rfl, rfl, rfl⟩, by simp⟩, HBi.out⟩
        have h1 := HMi.out.nd j hj
        have h2 := h1.1.blk.lt
        have h3 := HMi.out.du q rfl j hj
        exact ⟨by show w.heap.size ≤ gi j; omega, h2, by show gi j ≠ w.heap.size; omega, fun e => h3 e.symm⟩
end Go.Proofs.YtmficdfihogffaaDoor

/- Package net: an act, walked. -/
namespace Go.Proofs.YtmficdfihogffaaDoor
open Go.RowKit
set_option linter.unusedVariables false
set_option linter.unusedSimpArgs false
theorem net_Do (a : NAd) (ss rs : List Int) (p t t' : Int) (uv : Value) (us us' : List RLetter) (K : Nat) (S S' : Nat → NSt) (A : RAct) (c : Int) (w : World) (h : NetAt w a ss rs p t uv us K S) (hA : A.ok) (hK : K < 100000) (hn : NAct a.n ss rs t us S A c t' us' S') :
    Calls Tryd.prog 9 #[.pointer (some ⟨a.N, 0, none⟩), .agg #[.int .i64 A.what, .int .i64 A.a, .int .i64 A.b]] w (NetDone w a ss rs p uv c t' us' (K + 1) S') := by
  cases hn with
  | quiet _ _ _ hw => exact net_Do_quiet a ss rs p t t' uv us us' K S A c w h hA hK hw
  | bad _ _ L d sv rv b _ s' hw hd hs hr hh hc => exact net_Do_bad a ss rs p t t' uv us us' K S A L d sv rv b s' c w h hA hK hw hd hs hr hh hc
  | told _ _ L d sv rv b s' hw hd hs hr hh ha => exact net_Do_told a ss rs p t t' uv us us' K S A L d sv rv b s' w h hA hK hw hd hs hr hh ha
  | asked _ us1 _ L d sv rv b _ s' hw hd hs hr hh ha hwa => exact net_Do_asked a ss rs p t t' uv us us1 K S A L d sv rv b s' c us' w h hA hK hw hd hs hr hh ha hwa
end Go.Proofs.YtmficdfihogffaaDoor

/- Package net: Wide, walked. -/
namespace Go.Proofs.YtmficdfihogffaaDoor
open Go.RowKit
set_option linter.unusedVariables false
set_option linter.unusedSimpArgs false
/-- how wide all are, one pair behind the other. -/
def wideRow (F : Nat → Nat → Int) (i : Nat) : Nat → Int
  | 0 => 0
  | m + 1 => wideRow F i m + F i (i + 1 + m)
def wideAll (F : Nat → Nat → Int) (N : Nat) : Nat → Int
  | 0 => 0
  | i + 1 => wideAll F N i + wideRow F i (N - (i + 1))
def wideF (D : Nat → Nat → Int) (i k : Nat) : Int := if D i k < farI then D i k + D k i else 0
theorem wideRow_bd {F : Nat → Nat → Int} {N i : Nat} (hi : i < N) (hF : ∀ i k, i < N → k < N → -2000000000000 ≤ F i k ∧ F i k ≤ 2000000000000) : ∀ m, i + 1 + m ≤ N → -((m : Int) * 2000000000000) ≤ wideRow F i m ∧ wideRow F i m ≤ (m : Int) * 2000000000000
  | 0, _ => by simp [wideRow]
  | m + 1, h => by
    have h1 := wideRow_bd hi hF m (by omega)
    have h2 := hF i (i + 1 + m) hi (by omega)
    show _ ≤ wideRow F i m + F i (i + 1 + m) ∧ wideRow F i m + F i (i + 1 + m) ≤ _
    omega
theorem wideAll_bd {F : Nat → Nat → Int} {N : Nat} (h6 : N ≤ 6) (hF : ∀ i k, i < N → k < N → -2000000000000 ≤ F i k ∧ F i k ≤ 2000000000000) : ∀ i, i ≤ N → -((i : Int) * 12000000000000) ≤ wideAll F N i ∧ wideAll F N i ≤ (i : Int) * 12000000000000
  | 0, _ => by simp [wideAll]
  | i + 1, h => by
    have h1 := wideAll_bd h6 hF i (by omega)
    have h2 := wideRow_bd (show i < N by omega) hF (N - (i + 1)) (by omega)
    show _ ≤ wideAll F N i + wideRow F i (N - (i + 1)) ∧ wideAll F N i + wideRow F i (N - (i + 1)) ≤ _
    omega
/-- what is told of how wide all are. -/
def WideS (N : Nat) (l : List REdge) (v c : Int) : Prop :=
  (Sunk (Arc l) N ∧ c = 7 ∧ v = 0) ∨ (¬ Sunk (Arc l) N ∧ ∃ D : Nat → Nat → Int, Tells (Arc l) N D (fun a b => decide (D a b < farI)) ∧
    ((c = 1 ∧ v = 0 ∧ ∃ a b, a < N ∧ b < N ∧ ¬ timeD D a b) ∨ (c = 0 ∧ (∀ a b, a < N → b < N → timeD D a b) ∧ v = wideAll (wideF D) N N)))
set_option maxRecDepth 100000 in
set_option maxHeartbeats 8000000 in
theorem net_Wide_ok (a : NAd) (ss rs : List Int) (p t : Int) (uv : Value) (us : List RLetter) (K : Nat) (S : Nat → NSt) (w : World) (h : NetAt w a ss rs p t uv us K S) (hc : netC (hereAt ss rs t) S a.n = 0) (he : edgesC a.n (netL (hereAt ss rs t) S a.n) = 0) :
    Calls Tryd.prog 14 #[.pointer (some ⟨a.N, 0, none⟩)] w fun e w' => ∃ v c : Int, e = .returned (.tuple #[.int .i64 v, errV c]) ∧ WideS a.n (netL (hereAt ss rs t) S a.n) v c ∧ Below w.heap.size w w' := by
  have kN := h.net.lt
  have c1 := h.net.cell 1
  simp at c1
  have hnc := h.nc.1
  have hcm := h.nc.2
  unfold maxLen at hcm
  have CE := Lib.hid (net_Edges a ss rs p t uv us K S w h)
  rw [hc, show netE (hereAt ss rs t) S a.n = netL (hereAt ss rs t) S a.n by unfold netE; rw [if_pos hc]] at CE
  obtain ⟨L, eL⟩ : ∃ L, netL (hereAt ss rs t) S a.n = L := ⟨_, rfl⟩
  rw [eL] at CE he ⊢
  have h6 : a.n ≤ 6 := by have := (edgesC_0 he).2.1; omega
  have HE := Lib.hid he
  clear h hc he eL
  go_enter Tryd.func14, Tryd.ntmps14
  go_wp2_with fail
  refine CE.out.mono ?_
  rintro e w1 ⟨A, n, c, rfl, hI, hb1⟩
  have HB1 := Lib.hid hb1
  have y1 : w1.cell? ⟨a.N, 1, none⟩ = some (.slice (some ⟨a.q, 0, none⟩) a.n a.c) := (hb1.cell (p := ⟨a.N, 1, none⟩) kN).trans c1
  have kN1 : a.N < w1.heap.size := Nat.lt_of_lt_of_le kN hb1.size
  have CA := Lib.hid (bounds_All_ok a.n A n c L w1 hI HE.out)
  have hz1 := hb1.size
  clear hI hb1 CE
  go_wp2_with fail
  refine CA.out.mono ?_
  rintro e w2 ⟨A2, n2, c2, B2, m2, d2, k2, rfl, hb2, hP⟩
  have HB2 := Lib.hid (HB1.out.trans (hb2.mono hz1))
  have hz2 := HB2.out.size
  clear hb2 CA HB1
  rcases hP with ⟨hs, rfl⟩ | ⟨hs, D, hD, ⟨rfl, hno⟩ | ⟨rfl, ht, hM, hH⟩⟩
  · have HS := Lib.hid (show WideS a.n L 0 7 from .inl ⟨hs, rfl, rfl⟩)
    rw [errV_ne (show (7 : Int) ≠ 0 by decide)]
    clear hs
    go_wp2_with fail
    go_ret2
    exact ⟨0, 7, rfl, HS.out, HB2.out⟩
  · have HS := Lib.hid (show WideS a.n L 0 1 from .inr ⟨hs, D, hD, .inl ⟨rfl, rfl, hno⟩⟩)
    rw [errV_ne (show (1 : Int) ≠ 0 by decide)]
    clear hs hno
    go_wp2_with fail
    go_ret2
    exact ⟨0, 1, rfl, HS.out, HB2.out⟩
  · have HS := Lib.hid (show WideS a.n L (wideAll (wideF D) a.n a.n) 0 from .inr ⟨hs, D, hD, .inr ⟨rfl, ht, rfl⟩⟩)
    rw [errV_0]
    have HF := Lib.hid (show ∀ i k, i < a.n → k < a.n → -2000000000000 ≤ wideF D i k ∧ wideF D i k ≤ 2000000000000 from fun i k hi hk => by
      unfold wideF
      split
      · rename_i g
        have := ht i k hi hk g
        rw [timeB_iff, timeB_iff] at this
        omega
      · omega)
    have HTm := Lib.hid ht
    obtain ⟨rfl, m1, m2', b1, rfl, hl1, hM⟩ := hM
    obtain ⟨rfl, q1, q2, b2, rfl, hl2, hH⟩ := hH
    unfold maxLen at m2' q2
    have HM := Lib.hid hM
    have HH := Lib.hid hH
    clear hs ht hM hH hD
    go_wp2_with fail
    go_loopw [8, 35] (fun sv iv wx => ∃ i : Nat, iv = .int .i64 i ∧ i ≤ a.n ∧ sv = .int .i64 (wideAll (wideF D) a.n i) ∧ Below w2.heap.size w2 wx) (fun _ iv _ => a.n - (intOf iv).toNat)
    case atStart => exact ⟨0, rfl, by omega, rfl, Below.refl _ _⟩
    case round =>
      obtain ⟨i, rfl, hi, rfl, hB⟩ := hrel
      have HB := Lib.hid hB
      have hzi := hB.size
      clear hB
      by_cases g1 : i < a.n
      · have g2 : (i : Int) < (a.n : Int) := by omega
        have g3 : (0 : Int) ≤ (i : Int) := by omega
        have HQ := Lib.hid (show wideAll (wideF D) a.n (i + 1) = wideAll (wideF D) a.n i + wideRow (wideF D) i (a.n - (i + 1)) from rfl)
        have hwb := Lib.hid (wideAll_bd h6 HF.out i hi)
        obtain ⟨X, eX⟩ : ∃ X, wideAll (wideF D) a.n i = X := ⟨_, rfl⟩
        rw [eX] at HQ hwb ⊢
        clear eX
        obtain ⟨r1, d1, s1, s2, s3, s4, s5⟩ := HM.out i g1
        obtain ⟨r2, e2, t1, t2, t3, t4, t5⟩ := HH.out i g1
        unfold maxLen at s3 t3
        have S5 := Lib.hid s5
        have T5 := Lib.hid t5
        have S1 := Lib.hid s1
        have T1 := Lib.hid t1
        clear s5 t5 s1 t1
        go_wp2_with fail
        go_loopw [8, 10] (fun sv kv wx => ∃ k : Nat, kv = .int .i64 k ∧ i + 1 ≤ k ∧ k ≤ a.n ∧ sv = .int .i64 (X + wideRow (wideF D) i (k - (i + 1))) ∧ Below w2.heap.size w2 wx) (fun _ kv _ => a.n - (intOf kv).toNat)
        case atStart => exact ⟨i + 1, by go_num, by omega, by omega, by simp [wideRow], HB.out⟩
        case round =>
          obtain ⟨k, rfl, hk1, hk2, rfl, hBk⟩ := hrel
          have HBk := Lib.hid hBk
          have hzk := hBk.size
          clear hBk HB hzi
          by_cases m1 : k < a.n
          · have m2 : (k : Int) < (a.n : Int) := by omega
            have m3 : (0 : Int) ≤ (k : Int) := by omega
            have x0 := (HBk.out.cell (p := ⟨b1, i, none⟩) hl1).trans S1.out
            have x1 := (HBk.out.cell (p := ⟨b2, i, none⟩) hl2).trans T1.out
            have x2 := (HBk.out.cell (p := ⟨r2, k * 1 + 0, none⟩) t4).trans (T5.out k m1 0 _ rfl)
            simp only [Nat.mul_one, Nat.add_zero] at x2
            have hrow := Lib.hid (show wideRow (wideF D) i (k + 1 - (i + 1)) = wideRow (wideF D) i (k - (i + 1)) + wideF D i k by
              rw [show k + 1 - (i + 1) = (k - (i + 1)) + 1 by omega]
              show _ + wideF D i (i + 1 + (k - (i + 1))) = _
              rw [show i + 1 + (k - (i + 1)) = k by omega])
            have hrb := wideRow_bd g1 HF.out (k - (i + 1)) (by omega)
            obtain ⟨Y, eY⟩ : ∃ Y, wideRow (wideF D) i (k - (i + 1)) = Y := ⟨_, rfl⟩
            rw [eY] at hrow hrb ⊢
            have kb1 : b1 < wr.heap.size := by omega
            have kb2 : b2 < wr.heap.size := by omega
            have kr1 : r1 < wr.heap.size := by omega
            have kr2 : r2 < wr.heap.size := by omega
            clear eY
            by_cases hd : D i k < farI
            · have hval : wideF D i k = D i k + D k i := by unfold wideF; rw [if_pos hd]
              have x3 := (HBk.out.cell (p := ⟨r1, k * 2 + 0, none⟩) s4).trans (S5.out k m1 0 _ rfl)
              have x4 := (HBk.out.cell (p := ⟨r1, k * 2 + 1, none⟩) s4).trans (S5.out k m1 1 _ rfl)
              rw [if_pos hd] at x3 x4
              simp only [Nat.add_zero] at x3
              rw [decide_eq_true hd] at x2
              have tb := HTm.out i k g1 m1 hd
              rw [timeB_iff, timeB_iff] at tb
              rw [hval] at hrow
              obtain ⟨u, eu⟩ : ∃ u, D i k = u := ⟨_, rfl⟩
              obtain ⟨v, ev⟩ : ∃ v, -(D k i) = v := ⟨_, rfl⟩
              have ev2 : D k i = -v := by omega
              rw [eu, ev2] at hrow
              rw [eu] at x4
              rw [ev] at x3
              rw [eu, ev] at tb
              have hw1 := Lib.hid (IntWalk.i64_in (u - v) (by omega))
              have hwx := hwb.out
              have hki : ((k : Nat) : Int) ≤ 6 := by omega
              have hm6 : ((k - (i + 1) : Nat) : Int) * 2000000000000 ≤ 12000000000000 := by omega
              have hi6 : (i : Int) * 12000000000000 ≤ 72000000000000 := by omega
              have hw2 := Lib.hid (IntWalk.i64_in (X + Y + (u - v)) (by omega))
              have HRW := Lib.hid (show X + Y + (u - v) = X + wideRow (wideF D) i (k + 1 - (i + 1)) by rw [hrow.out]; omega)
              clear hval hd tb eu ev ev2 hrow hrb hwx hm6 hi6 hki
              as_aux_lemma =>
                go_upto_if 52 with (fail)
                go_wp2_with fail
                have hw1' := hw1.out
                have hw2' := hw2.out
                go_quiet (fail)
                clear hw1' hw2'
                go_wp2_with fail
                go_roundw
                case rel => exact ⟨k + 1, by go_num, by omega, by omega, by rw [← HRW.out], ⟨HBk.out.os, HBk.out.tape, HBk.out.output, HBk.out.size, HBk.out.block⟩⟩
                case measure => go_light; simp [intOf]; omega
            · have hval : wideF D i k = 0 := by unfold wideF; rw [if_neg hd]
              rw [decide_eq_false hd] at x2
              rw [hval, Int.add_zero] at hrow
              clear hval hd hrb
              as_aux_lemma =>
                go_upto_if 52 with (fail)
                go_wp2_with fail
                go_roundw
                case rel => exact ⟨k + 1, by go_num, by omega, by omega, by rw [hrow.out], HBk.out⟩
                case measure => go_light; simp [intOf]; omega
          · obtain rfl : k = a.n := by omega
            go_wp2_with fail
            go_roundw
            case rel => exact ⟨i + 1, by go_num, by omega, by rw [HQ.out], HBk.out⟩
            case measure => go_light; simp [intOf]; omega
      · obtain rfl : i = a.n := by omega
        go_wp2_with fail
        go_ret2
        exact ⟨_, 0, rfl, HS.out, HB2.out.trans (HB.out.mono hz2)⟩
end Go.Proofs.YtmficdfihogffaaDoor

/- bounds.Between, walked. -/
namespace Go.Proofs.YtmficdfihogffaaDoor
open Go.RowKit
set_option linter.unusedVariables false
set_option linter.unusedSimpArgs false
/-- what of two nodes is told; the fault. -/
def BetS (N : Int) (zs : List REdge) (a b : Int) (x : RSpan) (c : Int) : Prop :=
  (edgesC N zs ≠ 0 ∧ c = edgesC N zs ∧ x = ⟨0, 0⟩) ∨ (edgesC N zs = 0 ∧ (nodeB N a && nodeB N b) = false ∧ c = 1 ∧ x = ⟨0, 0⟩) ∨
  (edgesC N zs = 0 ∧ (nodeB N a && nodeB N b) = true ∧ ((Sunk (Arc zs) N.toNat ∧ c = 7 ∧ x = ⟨0, 0⟩) ∨ (¬ Sunk (Arc zs) N.toNat ∧ ∃ D : Nat → Nat → Int, Tells (Arc zs) N.toNat D (fun a b => decide (D a b < farI)) ∧
    (((∃ i j, i < N.toNat ∧ j < N.toNat ∧ ¬ timeD D i j) ∧ c = 1 ∧ x = ⟨0, 0⟩) ∨ ((∀ i j, i < N.toNat → j < N.toNat → timeD D i j) ∧
      ((¬ D a.toNat b.toNat < farI ∧ c = 5 ∧ x = ⟨0, 0⟩) ∨ (D a.toNat b.toNat < farI ∧ c = 0 ∧ x = ⟨-(D b.toNat a.toNat), D a.toNat b.toNat⟩)))))))
def BetP (N : Int) (zs : List REdge) (a b : Int) (w w' : World) (e : Ending) : Prop :=
  ∃ (x : RSpan) (c : Int), e = .returned (.tuple #[.agg #[.int .i64 x.lo, .int .i64 x.hi], errV c]) ∧ BetS N zs a b x c ∧ Below w.heap.size w w'
set_option maxHeartbeats 4000000 in
theorem bounds_Between (N : Int) (A : Option Addr) (n c : Nat) (zs : List REdge) (a b : Int) (w : World) (hz : IsRecs w REdge.cells REdge.ok 4 A n c zs) :
    Calls Tryd.prog 34 #[.int .i64 N, .slice A n c, .int .i64 a, .int .i64 b] w fun e w' => BetP N zs a b w w' e := by
  have hm1 := hz.2.1
  have hm2 := hz.2.2.1
  unfold maxLen at hm2
  have C := Lib.hid (fun w' (hb : Below w.heap.size w w') => bounds_Check N A n c zs w' (hz.below hb))
  have HZ := Lib.hid hz
  clear hz
  by_cases c0 : edgesC N zs = 0
  · rw [c0] at C
    have C0 := Lib.hid c0
    obtain ⟨c4, c5, c6, c7⟩ := edgesC_0 c0
    obtain ⟨N', rfl⟩ := Int.eq_ofNat_of_zero_le (show 0 ≤ N by omega)
    clear c6 c7
    cases hnd : (nodeB N' a && nodeB N' b)
    · have HND := Lib.hid hnd
      have hnd2 : nodeB N' a = false ∨ nodeB N' a = true ∧ nodeB N' b = false := by
        cases h1 : nodeB N' a
        · exact .inl rfl
        · rw [h1] at hnd; exact .inr ⟨rfl, by simpa using hnd⟩
      clear hnd c0
      rcases hnd2 with h1 | ⟨h1, h2⟩
      all_goals
        go_enter Tryd.func34, Tryd.ntmps34
        go_wp2_with fail
        refine (C.out _ (by repeat (first | with_reducible exact Below.refl _ _ | (with_reducible refine Below.alloc ?_ (by first | omega | (simp; done) | (simp; omega)) _) | (with_reducible refine Below.setCell ?_ (by first | omega | (simp; done) | (simp; omega)) _) | (with_reducible refine Below.drew ?_) | (with_reducible refine below_drewN ?_ _) | (with_reducible assumption) | (with_reducible refine bel_step (by with_reducible assumption) ?_ (by first | omega | (simp; done) | (simp; omega)))))).mono ?_
        rintro e w1 ⟨rfl, hb1⟩
        have hr0 : w1.cell? ⟨w.heap.size, 0, none⟩ = some (.int .i64 0) := (hb1.cell (p := ⟨w.heap.size, 0, none⟩) (by simp)).trans (by simp)
        have hr1 : w1.cell? ⟨w.heap.size, 1, none⟩ = some (.int .i64 0) := (hb1.cell (p := ⟨w.heap.size, 1, none⟩) (by simp)).trans (by simp)
        have hf0 := fun o => (hb1.frozen (p := ⟨w.heap.size, o, none⟩) (by simp)).trans (by simp : (w.alloc (.cells #[.int .i64 0, .int .i64 0] 38)).frozen? ⟨w.heap.size, o, none⟩ = false)
        have hlt := hb1.size
        simp at hlt
        have HB1 := Lib.hid hb1
        clear hb1
        go_wp2_with (go_at_call 33; refine (Node_any _ _ _).mono ?_; rintro e w' ⟨rfl, rfl⟩)
        refine bodyPost_ret (v := .tuple #[.agg #[.int .i64 0, .int .i64 0], .iface 75 (.int .i64 1)]) (by simp [results, Tryd.results34, go_sem, hr0, hr1, hf0]) rfl ?_
        exact ⟨⟨0, 0⟩, 1, rfl, .inr (.inl ⟨C0.out, HND.out, rfl, rfl⟩), by have := HB1.out; exact (by repeat (first | with_reducible exact Below.refl _ _ | (with_reducible refine Below.alloc ?_ (by first | omega | (simp; done) | (simp; omega)) _) | (with_reducible refine Below.setCell ?_ (by first | omega | (simp; done) | (simp; omega)) _) | (with_reducible refine Below.drew ?_) | (with_reducible refine below_drewN ?_ _) | (with_reducible assumption) | (with_reducible refine bel_step (by with_reducible assumption) ?_ (by first | omega | (simp; done) | (simp; omega)))))⟩
    · have HND := Lib.hid hnd
      have h1 : nodeB N' a = true := by cases h : nodeB N' a; (rw [h] at hnd; cases hnd); rfl
      have h2 : nodeB N' b = true := by rw [h1] at hnd; simpa using hnd
      have CA := Lib.hid (fun w' (hb : Below w.heap.size w w') => bounds_All_ok N' A n c zs w' (HZ.out.below hb) C0.out)
      obtain ⟨n1, n2⟩ := nodeB_iff.1 h1
      obtain ⟨n3, n4⟩ := nodeB_iff.1 h2
      clear hnd c0
      go_enter Tryd.func34, Tryd.ntmps34
      go_wp2_with fail
      refine (C.out _ (by repeat (first | with_reducible exact Below.refl _ _ | (with_reducible refine Below.alloc ?_ (by first | omega | (simp; done) | (simp; omega)) _) | (with_reducible refine Below.setCell ?_ (by first | omega | (simp; done) | (simp; omega)) _) | (with_reducible refine Below.drew ?_) | (with_reducible refine below_drewN ?_ _) | (with_reducible assumption) | (with_reducible refine bel_step (by with_reducible assumption) ?_ (by first | omega | (simp; done) | (simp; omega)))))).mono ?_
      rintro e w1 ⟨rfl, hb1⟩
      have HB1 := Lib.hid hb1
      have hz1 := hb1.size
      simp at hz1
      clear hb1
      go_wp2_with (go_at_call 33; refine (Node_any _ _ _).mono ?_; rintro e w' ⟨rfl, rfl⟩)
      refine (CA.out _ (show Below w.heap.size w w1 by have := HB1.out; exact (by repeat (first | with_reducible exact Below.refl _ _ | (with_reducible refine Below.alloc ?_ (by first | omega | (simp; done) | (simp; omega)) _) | (with_reducible refine Below.setCell ?_ (by first | omega | (simp; done) | (simp; omega)) _) | (with_reducible refine Below.drew ?_) | (with_reducible refine below_drewN ?_ _) | (with_reducible assumption) | (with_reducible refine bel_step (by with_reducible assumption) ?_ (by first | omega | (simp; done) | (simp; omega))))))).mono ?_
      rintro e w2 ⟨B1, m1, d1, B2, m2, d2, k, rfl, hb2, hA⟩
      have hz2 := hb2.size
      have hbb : Below (w.alloc (.cells #[.int .i64 0, .int .i64 0] 38)).heap.size (w.alloc (.cells #[.int .i64 0, .int .i64 0] 38)) w2 := HB1.out.trans (hb2.mono (by simp; omega))
      have hr0 : w2.cell? ⟨w.heap.size, 0, none⟩ = some (.int .i64 0) := (hbb.cell (p := ⟨w.heap.size, 0, none⟩) (by simp)).trans (by simp)
      have hr1 : w2.cell? ⟨w.heap.size, 1, none⟩ = some (.int .i64 0) := (hbb.cell (p := ⟨w.heap.size, 1, none⟩) (by simp)).trans (by simp)
      have hf0 := fun o => (hbb.frozen (p := ⟨w.heap.size, o, none⟩) (by simp)).trans (by simp : (w.alloc (.cells #[.int .i64 0, .int .i64 0] 38)).frozen? ⟨w.heap.size, o, none⟩ = false)
      have hlt : w.heap.size < w2.heap.size := by omega
      have HB2 := Lib.hid (show Below w.heap.size w w2 by exact (show Below w.heap.size w (w.alloc (.cells #[.int .i64 0, .int .i64 0] 38)) from (by repeat (first | with_reducible exact Below.refl _ _ | (with_reducible refine Below.alloc ?_ (by first | omega | (simp; done) | (simp; omega)) _) | (with_reducible refine Below.setCell ?_ (by first | omega | (simp; done) | (simp; omega)) _) | (with_reducible refine Below.drew ?_) | (with_reducible refine below_drewN ?_ _) | (with_reducible assumption) | (with_reducible refine bel_step (by with_reducible assumption) ?_ (by first | omega | (simp; done) | (simp; omega)))))).trans (hbb.mono (by simp)))
      clear hb2 hbb HB1
      rcases hA with ⟨s1, rfl⟩ | ⟨s1, D, s2, ⟨rfl, s3⟩ | ⟨rfl, s3, s4, s5⟩⟩
      · have S1 := Lib.hid s1
        clear s1
        go_wp2_with fail
        refine bodyPost_ret (v := .tuple #[.agg #[.int .i64 0, .int .i64 0], .iface 75 (.int .i64 7)]) (by simp [results, Tryd.results34, go_sem, hr0, hr1, hf0]) rfl ?_
        exact ⟨⟨0, 0⟩, 7, rfl, .inr (.inr ⟨C0.out, HND.out, .inl ⟨S1.out, rfl, rfl⟩⟩), by have := HB2.out; exact (by repeat (first | with_reducible exact Below.refl _ _ | (with_reducible refine Below.alloc ?_ (by first | omega | (simp; done) | (simp; omega)) _) | (with_reducible refine Below.setCell ?_ (by first | omega | (simp; done) | (simp; omega)) _) | (with_reducible refine Below.drew ?_) | (with_reducible refine below_drewN ?_ _) | (with_reducible assumption) | (with_reducible refine bel_step (by with_reducible assumption) ?_ (by first | omega | (simp; done) | (simp; omega)))))⟩
      · have S1 := Lib.hid s1
        have S2 := Lib.hid s2
        have S3 := Lib.hid s3
        clear s1 s2 s3
        go_wp2_with fail
        refine bodyPost_ret (v := .tuple #[.agg #[.int .i64 0, .int .i64 0], .iface 75 (.int .i64 1)]) (by simp [results, Tryd.results34, go_sem, hr0, hr1, hf0]) rfl ?_
        exact ⟨⟨0, 0⟩, 1, rfl, .inr (.inr ⟨C0.out, HND.out, .inr ⟨S1.out, D, S2.out, .inl ⟨S3.out, rfl, rfl⟩⟩⟩), by have := HB2.out; exact (by repeat (first | with_reducible exact Below.refl _ _ | (with_reducible refine Below.alloc ?_ (by first | omega | (simp; done) | (simp; omega)) _) | (with_reducible refine Below.setCell ?_ (by first | omega | (simp; done) | (simp; omega)) _) | (with_reducible refine Below.drew ?_) | (with_reducible refine below_drewN ?_ _) | (with_reducible assumption) | (with_reducible refine bel_step (by with_reducible assumption) ?_ (by first | omega | (simp; done) | (simp; omega)))))⟩
      · have S1 := Lib.hid s1
        have S2 := Lib.hid s2
        have S3 := Lib.hid s3
        obtain ⟨a', rfl⟩ := Int.eq_ofNat_of_zero_le n1
        obtain ⟨b', rfl⟩ := Int.eq_ofNat_of_zero_le n3
        have la : a' < N' := by omega
        have lb : b' < N' := by omega
        obtain ⟨q1, r1, e1, rfl, em1, x1, x2, x3, x4, x5, x6⟩ := s4.at_ la lb
        obtain ⟨q2, r2, e2, rfl, em2, y1, y2, y3, y4, y5, y6⟩ := s5.at_ la lb
        subst em1 em2
        have hc1 := s4.2.1
        have hc2 := s4.2.2.1
        have hc3 := s5.2.1
        have hc4 := s5.2.2.1
        unfold maxLen at hc2 hc4 x3 y3
        by_cases hf : D a' b' < farI
        · have z0 := x6 0 _ (by simp only [hf, if_true]; rfl)
          have z1 := x6 1 _ (by simp only [hf, if_true]; rfl)
          have z2 := y6 0 _ (by simp only [hf, decide_true]; rfl)
          have HF := Lib.hid hf
          obtain ⟨v1, hv1⟩ : ∃ v, D a' b' = v := ⟨_, rfl⟩
          obtain ⟨v2, hv2⟩ : ∃ v, -(D b' a') = v := ⟨_, rfl⟩
          simp only [RSpan.cells, Nat.add_zero, Nat.mul_one] at z0 z1 z2
          rw [hv2] at z0
          rw [hv1] at z1
          have HV1 := Lib.hid hv1
          have HV2 := Lib.hid hv2
          clear s1 s2 s3 s4 s5 x6 y6 hf hv1 hv2
          go_wp2_with fail
          refine bodyPost_ret (v := .tuple #[.agg #[.int .i64 v2, .int .i64 v1], .nilIface]) (by simp [results, Tryd.results34, go_sem, hr0, hr1, hf0]) rfl ?_
          exact ⟨⟨v2, v1⟩, 0, rfl, .inr (.inr ⟨C0.out, HND.out, .inr ⟨S1.out, D, S2.out, .inr ⟨S3.out, .inr ⟨HF.out, rfl, by simp [HV1.out, HV2.out]⟩⟩⟩⟩), by have := HB2.out; exact (by repeat (first | with_reducible exact Below.refl _ _ | (with_reducible refine Below.alloc ?_ (by first | omega | (simp; done) | (simp; omega)) _) | (with_reducible refine Below.setCell ?_ (by first | omega | (simp; done) | (simp; omega)) _) | (with_reducible refine Below.drew ?_) | (with_reducible refine below_drewN ?_ _) | (with_reducible assumption) | (with_reducible refine bel_step (by with_reducible assumption) ?_ (by first | omega | (simp; done) | (simp; omega)))))⟩
        · have z2 := y6 0 _ (by simp only [hf, decide_false]; rfl)
          have HF := Lib.hid hf
          simp only [Nat.add_zero, Nat.mul_one] at z2
          clear s1 s2 s3 s4 s5 x6 y6 hf
          go_wp2_with fail
          refine bodyPost_ret (v := .tuple #[.agg #[.int .i64 0, .int .i64 0], .iface 75 (.int .i64 5)]) (by simp [results, Tryd.results34, go_sem, hr0, hr1, hf0]) rfl ?_
          exact ⟨⟨0, 0⟩, 5, rfl, .inr (.inr ⟨C0.out, HND.out, .inr ⟨S1.out, D, S2.out, .inr ⟨S3.out, .inl ⟨fun q => by have := HF.out; simp only [Int.toNat_natCast] at q; omega, rfl, rfl⟩⟩⟩⟩), by have := HB2.out; exact (by repeat (first | with_reducible exact Below.refl _ _ | (with_reducible refine Below.alloc ?_ (by first | omega | (simp; done) | (simp; omega)) _) | (with_reducible refine Below.setCell ?_ (by first | omega | (simp; done) | (simp; omega)) _) | (with_reducible refine Below.drew ?_) | (with_reducible refine below_drewN ?_ _) | (with_reducible assumption) | (with_reducible refine bel_step (by with_reducible assumption) ?_ (by first | omega | (simp; done) | (simp; omega)))))⟩
  · rw [errV_ne c0] at C
    have C0 := Lib.hid c0
    clear c0
    go_enter Tryd.func34, Tryd.ntmps34
    go_wp2_with fail
    refine (C.out _ (by repeat (first | with_reducible exact Below.refl _ _ | (with_reducible refine Below.alloc ?_ (by first | omega | (simp; done) | (simp; omega)) _) | (with_reducible refine Below.setCell ?_ (by first | omega | (simp; done) | (simp; omega)) _) | (with_reducible refine Below.drew ?_) | (with_reducible refine below_drewN ?_ _) | (with_reducible assumption) | (with_reducible refine bel_step (by with_reducible assumption) ?_ (by first | omega | (simp; done) | (simp; omega)))))).mono ?_
    rintro e w1 ⟨rfl, hb1⟩
    have hr0 : w1.cell? ⟨w.heap.size, 0, none⟩ = some (.int .i64 0) := (hb1.cell (p := ⟨w.heap.size, 0, none⟩) (by simp)).trans (by simp)
    have hr1 : w1.cell? ⟨w.heap.size, 1, none⟩ = some (.int .i64 0) := (hb1.cell (p := ⟨w.heap.size, 1, none⟩) (by simp)).trans (by simp)
    have hf0 := fun o => (hb1.frozen (p := ⟨w.heap.size, o, none⟩) (by simp)).trans (by simp : (w.alloc (.cells #[.int .i64 0, .int .i64 0] 38)).frozen? ⟨w.heap.size, o, none⟩ = false)
    have hlt := hb1.size
    simp at hlt
    have HB1 := Lib.hid hb1
    clear hb1
    go_wp2_with fail
    refine bodyPost_ret (v := .tuple #[.agg #[.int .i64 0, .int .i64 0], .iface 75 (.int .i64 (edgesC N zs))]) (by simp [results, Tryd.results34, go_sem, hr0, hr1, hf0]) rfl ?_
    exact ⟨⟨0, 0⟩, edgesC N zs, by rw [errV_ne C0.out], .inl ⟨C0.out, rfl, rfl⟩, by have := HB1.out; exact (by repeat (first | with_reducible exact Below.refl _ _ | (with_reducible refine Below.alloc ?_ (by first | omega | (simp; done) | (simp; omega)) _) | (with_reducible refine Below.setCell ?_ (by first | omega | (simp; done) | (simp; omega)) _) | (with_reducible refine Below.drew ?_) | (with_reducible refine below_drewN ?_ _) | (with_reducible assumption) | (with_reducible refine bel_step (by with_reducible assumption) ?_ (by first | omega | (simp; done) | (simp; omega)))))⟩
end Go.Proofs.YtmficdfihogffaaDoor

/- Package net: Offset, walked. -/
namespace Go.Proofs.YtmficdfihogffaaDoor
open Go.RowKit
set_option linter.unusedVariables false
set_option linter.unusedSimpArgs false
/-- what a net tells of two clocks; the fault. -/
def OffS (n : Nat) (h : Nat → Int) (S : Nat → NSt) (a b : Int) (x : RSpan) (c : Int) : Prop :=
  ((nodeB n a && nodeB n b) = false ∧ c = 1 ∧ x = ⟨0, 0⟩) ∨ ((nodeB n a && nodeB n b) = true ∧ ((netC h S n ≠ 0 ∧ c = netC h S n ∧ x = ⟨0, 0⟩) ∨ (netC h S n = 0 ∧ BetS n (netL h S n) a b x c)))
def OffP (n : Nat) (h : Nat → Int) (S : Nat → NSt) (a b : Int) (w w' : World) (e : Ending) : Prop :=
  ∃ (x : RSpan) (c : Int), e = .returned (.tuple #[.agg #[.int .i64 x.lo, .int .i64 x.hi], errV c]) ∧ OffS n h S a b x c ∧ Below w.heap.size w w'
set_option maxRecDepth 100000 in
set_option maxHeartbeats 8000000 in
theorem net_Offset (a : NAd) (ss rs : List Int) (p t : Int) (uv : Value) (us : List RLetter) (K : Nat) (S : Nat → NSt) (i k : Int) (w : World) (h : NetAt w a ss rs p t uv us K S) :
    Calls Tryd.prog 12 #[.pointer (some ⟨a.N, 0, none⟩), .int .i64 i, .int .i64 k] w fun e w' => OffP a.n (hereAt ss rs t) S i k w w' e := by
  have HU := Lib.hid h
  have kN := h.net.lt
  have c1 := h.net.cell 1
  simp at c1
  have hnc := h.nc.1
  have hcm := h.nc.2
  unfold maxLen at hcm
  have CE := Lib.hid (fun W (hb : Below w.heap.size w W) => net_Edges a ss rs p t uv us K S W (h.below hb))
  clear h
  cases hnd : (nodeB (a.n : Int) i && nodeB (a.n : Int) k)
  · have HO := Lib.hid (show OffS a.n (hereAt ss rs t) S i k ⟨0, 0⟩ 1 from .inl ⟨hnd, rfl, rfl⟩)
    obtain ⟨x, hx⟩ : ∃ x, nodeB (a.n : Int) i = x := ⟨_, rfl⟩
    obtain ⟨y, hy⟩ : ∃ x, nodeB (a.n : Int) k = x := ⟨_, rfl⟩
    have C1 := Lib.hid (fun w => by have := Node_any (a.n : Int) i w; rw [hx] at this; exact this)
    have C2 := Lib.hid (fun w => by have := Node_any (a.n : Int) k w; rw [hy] at this; exact this)
    rw [hx, hy] at hnd
    have hd : x = false ∨ (x = true ∧ y = false) := by cases x; exact .inl rfl; exact .inr ⟨rfl, by simpa using hnd⟩
    clear hnd hx hy CE
    rcases hd with rfl | ⟨rfl, rfl⟩
    all_goals
      go_enter Tryd.func12, Tryd.ntmps12
      go_wp2_with (first | (go_at_call 33; (with_reducible refine (C1.out _).mono ?_); rintro e w' ⟨rfl, rfl⟩) | (go_at_call 33; (with_reducible refine (C2.out _).mono ?_); rintro e w' ⟨rfl, rfl⟩))
      refine bodyPost_ret (v := .tuple #[.agg #[.int .i64 0, .int .i64 0], .iface 75 (.int .i64 1)]) (by simp [results, Tryd.results12, go_sem]) rfl ?_
      exact ⟨⟨0, 0⟩, 1, rfl, HO.out, (by repeat (first | with_reducible exact Below.refl _ _ | (with_reducible refine Below.alloc ?_ (by first | omega | (simp; done) | (simp; omega)) _) | (with_reducible refine Below.setCell ?_ (by first | omega | (simp; done) | (simp; omega)) _) | (with_reducible refine Below.drew ?_) | (with_reducible refine below_drewN ?_ _) | (with_reducible assumption) | (with_reducible refine bel_step (by with_reducible assumption) ?_ (by first | omega | (simp; done) | (simp; omega)))))⟩
  · have HND := Lib.hid hnd
    rw [Bool.and_eq_true] at hnd
    have C1 := Lib.hid (fun w => by have := Node_any (a.n : Int) i w; rw [hnd.1] at this; exact this)
    have C2 := Lib.hid (fun w => by have := Node_any (a.n : Int) k w; rw [hnd.2] at this; exact this)
    clear hnd
    go_enter Tryd.func12, Tryd.ntmps12
    go_wp2_with (first | (go_at_call 33; (with_reducible refine (C1.out _).mono ?_); rintro e w' ⟨rfl, rfl⟩) | (go_at_call 33; (with_reducible refine (C2.out _).mono ?_); rintro e w' ⟨rfl, rfl⟩))
    refine (CE.out _ (by exact (by repeat (first | with_reducible exact Below.refl _ _ | (with_reducible refine Below.alloc ?_ (by first | omega | (simp; done) | (simp; omega)) _) | (with_reducible refine Below.setCell ?_ (by first | omega | (simp; done) | (simp; omega)) _) | (with_reducible refine Below.drew ?_) | (with_reducible refine below_drewN ?_ _) | (with_reducible assumption) | (with_reducible refine bel_step (by with_reducible assumption) ?_ (by first | omega | (simp; done) | (simp; omega))))))).mono ?_
    rintro e w1 ⟨A, n, c, rfl, hI, hb1⟩
    have hbr : Blk w1 w.heap.size 38 #[.int .i64 0, .int .i64 0] := (Blk.new w _ _).below hb1 (by simp)
    have HB1 := Lib.hid (show Below w.heap.size w w1 by exact (by repeat (first | with_reducible exact Below.refl _ _ | (with_reducible refine Below.alloc ?_ (by first | omega | (simp; done) | (simp; omega)) _) | (with_reducible refine Below.setCell ?_ (by first | omega | (simp; done) | (simp; omega)) _) | (with_reducible refine Below.drew ?_) | (with_reducible refine below_drewN ?_ _) | (with_reducible assumption) | (with_reducible refine bel_step (by with_reducible assumption) ?_ (by first | omega | (simp; done) | (simp; omega))))))
    have r0 : w1.cell? ⟨w.heap.size, 0, none⟩ = some (.int .i64 0) := hbr.cell 0
    have r1 : w1.cell? ⟨w.heap.size, 1, none⟩ = some (.int .i64 0) := hbr.cell 1
    have f0 : w1.frozen? ⟨w.heap.size, 0, none⟩ = false := hbr.fz 0
    have f1 : w1.frozen? ⟨w.heap.size, 1, none⟩ = false := hbr.fz 1
    have hl := hbr.lt
    have HI := Lib.hid hI
    have HBr := Lib.hid hbr
    clear hI hb1 hbr CE
    by_cases hc : netC (hereAt ss rs t) S a.n = 0
    · have HC := Lib.hid hc
      have y1 : w1.cell? ⟨a.N, 1, none⟩ = some (.slice (some ⟨a.q, 0, none⟩) a.n a.c) := (HB1.out.cell (p := ⟨a.N, 1, none⟩) kN).trans c1
      have CBt := Lib.hid (bounds_Between (a.n : Int) A n c (netL (hereAt ss rs t) S a.n) i k w1 (by have := HI.out; unfold netE at this; rw [if_pos hc] at this; exact this))
      rw [hc]
      clear hc
      go_wp2_with fail
      refine CBt.out.mono ?_
      rintro e w2 ⟨x, c', rfl, hS, hb2⟩
      have HS := Lib.hid hS
      have hbr2 := HBr.out.below hb2 hl
      have r0 : w2.cell? ⟨w.heap.size, 0, none⟩ = some (.int .i64 0) := hbr2.cell 0
      have r1 : w2.cell? ⟨w.heap.size, 1, none⟩ = some (.int .i64 0) := hbr2.cell 1
      have f0 : w2.frozen? ⟨w.heap.size, 0, none⟩ = false := hbr2.fz 0
      have f1 : w2.frozen? ⟨w.heap.size, 1, none⟩ = false := hbr2.fz 1
      have hl2 := hbr2.lt
      have hB2 : Below w.heap.size w w2 := HB1.out.trans (hb2.mono HB1.out.size)
      have hF : Blk ((w2.setCell ⟨w.heap.size, 0, none⟩ (.int .i64 x.lo)).setCell ⟨w.heap.size, 1, none⟩ (.int .i64 x.hi)) w.heap.size 38 #[.int .i64 x.lo, .int .i64 x.hi] := ((hbr2.set 0 _).set 1 _).conv rfl
      have z0 : ((w2.setCell ⟨w.heap.size, 0, none⟩ (.int .i64 x.lo)).setCell ⟨w.heap.size, 1, none⟩ (.int .i64 x.hi)).cell? ⟨w.heap.size, 0, none⟩ = some (.int .i64 x.lo) := hF.cell 0
      have z1 : ((w2.setCell ⟨w.heap.size, 0, none⟩ (.int .i64 x.lo)).setCell ⟨w.heap.size, 1, none⟩ (.int .i64 x.hi)).cell? ⟨w.heap.size, 1, none⟩ = some (.int .i64 x.hi) := hF.cell 1
      obtain ⟨E, hE⟩ : ∃ E, errV c' = E := ⟨_, rfl⟩
      rw [hE]
      have HE := Lib.hid hE
      clear hS hb2 hbr2 CBt hF hE
      go_wp2_with fail
      refine bodyPost_ret (v := .tuple #[.agg #[.int .i64 x.lo, .int .i64 x.hi], E]) (by simp [results, Tryd.results12, go_sem, r0, r1]) rfl ?_
      exact ⟨x, c', by rw [HE.out], .inr ⟨HND.out, .inr ⟨HC.out, HS.out⟩⟩, (by repeat (first | with_reducible exact Below.refl _ _ | (with_reducible refine Below.alloc ?_ (by first | omega | (simp; done) | (simp; omega)) _) | (with_reducible refine Below.setCell ?_ (by first | omega | (simp; done) | (simp; omega)) _) | (with_reducible refine Below.drew ?_) | (with_reducible refine below_drewN ?_ _) | (with_reducible assumption) | (with_reducible refine bel_step (by with_reducible assumption) ?_ (by first | omega | (simp; done) | (simp; omega)))))⟩
    · have HO := Lib.hid (show OffS a.n (hereAt ss rs t) S i k ⟨0, 0⟩ (netC (hereAt ss rs t) S a.n) from .inr ⟨HND.out, .inl ⟨hc, rfl, rfl⟩⟩)
      obtain ⟨cc, hcc⟩ : ∃ cc, netC (hereAt ss rs t) S a.n = cc := ⟨_, rfl⟩
      rw [hcc] at hc HO ⊢
      rw [errV_ne hc]
      clear hcc HI
      go_wp2_with fail
      refine bodyPost_ret (v := .tuple #[.agg #[.int .i64 0, .int .i64 0], .iface 75 (.int .i64 cc)]) (by simp [results, Tryd.results12, go_sem, r0, r1]) rfl ?_
      have hB1 := HB1.out
      exact ⟨⟨0, 0⟩, cc, by rw [errV_ne hc], HO.out, (by repeat (first | with_reducible exact Below.refl _ _ | (with_reducible refine Below.alloc ?_ (by first | omega | (simp; done) | (simp; omega)) _) | (with_reducible refine Below.setCell ?_ (by first | omega | (simp; done) | (simp; omega)) _) | (with_reducible refine Below.drew ?_) | (with_reducible refine below_drewN ?_ _) | (with_reducible assumption) | (with_reducible refine bel_step (by with_reducible assumption) ?_ (by first | omega | (simp; done) | (simp; omega)))))⟩
end Go.Proofs.YtmficdfihogffaaDoor

/- The edges of any net whose nodes tell are right. No program stands here. -/
namespace Go.Proofs.YtmficdfihogffaaDoor
open Go.RowKit
set_option linter.unusedVariables false
set_option linter.unusedSimpArgs false
theorem netC_each {h : Nat → Int} {S : Nat → NSt} : ∀ {n : Nat}, netC h S n = 0 → ∀ i, i < n → tellC (S i) (h i) = 0
  | 0, _, i, hi => by omega
  | n + 1, hc, i, hi => by
    have e : netC h S (n + 1) = if netC h S n = 0 then tellC (S n) (h n) else netC h S n := rfl
    rw [e] at hc
    by_cases g : netC h S n = 0
    · rw [if_pos g] at hc
      by_cases c : i = n
      · subst c; exact hc
      · exact netC_each g i (by omega)
    · rw [if_neg g] at hc; exact absurd hc g
theorem netL_edgesC {n : Nat} {h : Nat → Int} {S : Nat → NSt} (h1 : 1 ≤ n) (h6 : n ≤ 6) (sN : ∀ i, i < n → (S i).N = n ∧ (S i).id = i) (hc : netC h S n = 0) : edgesC n (netL h S n) = 0 := by
  have hl := netL_len (h := h) (S := S) (n := n) (fun i hi => (sN i hi).1) n (Nat.le_refl _)
  have hm := Nat.mul_le_mul h6 h6
  unfold edgesC
  rw [if_neg (by omega), if_neg (by omega)]
  refine edgesGo_all fun e he => ?_
  obtain ⟨i, hi, he⟩ := List.mem_flatMap.1 he
  have hi := List.mem_range.1 hi
  have ht := netC_each hc i hi
  unfold tellE at he
  rw [if_pos ht] at he
  obtain ⟨j, hj, he⟩ := List.mem_flatMap.1 he
  have hj' := List.mem_range.1 hj
  obtain ⟨s1, s2⟩ := sN i hi
  have hfar : farAt (S i) (h i) j = false := by
    rcases tell_3 (S i) (h i) with ⟨g, _⟩ | ⟨g, _⟩ | ⟨_, _, g⟩
    · omega
    · omega
    · exact g j hj'
  rw [s1] at hj'
  unfold edgeAt at he
  split at he
  · rename_i g
    rw [List.mem_singleton] at he
    subst he
    rw [s2] at g ⊢
    obtain ⟨g1, g2⟩ := g
    unfold hasAt at g1
    cases hf : (S i).f j with
    | none => rw [hf, s2] at g1; simp at g1; exact absurd g1 g2
    | some k =>
      unfold farAt at hfar
      rw [hf] at hfar
      have hr : rightB (ageL k (S i).p (h i)) (ageH k (S i).p (h i)) = true := by simpa using hfar
      unfold edgeC spanAt
      rw [hf]
      simp only []
      rw [if_pos ⟨nodeB_iff.2 (by omega), nodeB_iff.2 (by omega)⟩, if_neg (by omega), hr]
      rfl
  · simp at he
end Go.Proofs.YtmficdfihogffaaDoor

/- What the document's bounds and the program's tell alike. -/
namespace Go.Proofs.YtmficdfihogffaaDoor
open Go.RowKit
set_option linter.unusedVariables false
set_option linter.unusedSimpArgs false
theorem tells_rev {l : List REdge} {n : Nat} {D : Nat → Nat → Int} {H : Nat → Nat → Bool} (h : Tells (Arc l) n D H) {a b : Nat} (ha : a < n) (hb : b < n) (hh : H a b = true) : H b a = true := by
  rcases h a b ha hb with ⟨h1, _⟩ | ⟨_, ⟨r, hw⟩, _⟩
  · rw [hh] at h1; cases h1
  · obtain ⟨s, d, g⟩ := way_rev hw
    rcases h b a hb ha with ⟨_, h2⟩ | ⟨h2, _⟩
    · exact absurd g (h2 _ _)
    · exact h2
/-- are all bounds times? -/
def TimeS (n : Nat) (D : Nat → Nat → Int) (H : Nat → Nat → Bool) (F : Int) : Prop :=
  (F = 0 ∧ ∀ a b, a < n → b < n → H a b = true → timeB (D a b) = true) ∨ (F = 1 ∧ ∃ a b, a < n ∧ b < n ∧ H a b = true ∧ timeB (D a b) = false)
theorem time_neg {x : Int} (h : timeB x = true) : timeB (-x) = true := by
  rw [timeB_iff] at h ⊢; omega
theorem time_yes {l : List REdge} {n : Nat} {D E : Nat → Nat → Int} {H : Nat → Nat → Bool} (h : Tells (Arc l) n D H) (g : Tells (Arc l) n E (fun a b => decide (E a b < farI))) {a b : Nat} (ha : a < n) (hb : b < n)
    (ht : timeD E a b) (hh : H a b = true) : timeB (D a b) = true := by
  have hg := (h.has g ha hb).symm.trans hh
  rw [h.same g ha hb hh]
  exact (ht (of_decide_eq_true hg)).1
theorem time_no {l : List REdge} {n : Nat} {D E : Nat → Nat → Int} {H : Nat → Nat → Bool} (h : Tells (Arc l) n D H) (g : Tells (Arc l) n E (fun a b => decide (E a b < farI)))
    (ht : ∀ a b, a < n → b < n → H a b = true → timeB (D a b) = true) {a b : Nat} (ha : a < n) (hb : b < n) : timeD E a b := by
  intro hlt
  have hg : H a b = true := (h.has g ha hb).trans (decide_eq_true hlt)
  have hr := tells_rev h ha hb hg
  exact ⟨by rw [← h.same g ha hb hg]; exact ht a b ha hb hg, time_neg (by rw [← h.same g hb ha hr]; exact ht b a hb ha hr)⟩
/-- a bound as a span; none: nothing. -/
def bndS (D : Nat → Nat → Int) (H : Nat → Nat → Bool) (a b : Nat) : RSpan := if H a b = true then ⟨-(D b a), D a b⟩ else ⟨0, 0⟩
theorem bnd_same {l : List REdge} {n : Nat} {D E : Nat → Nat → Int} {H : Nat → Nat → Bool} (h : Tells (Arc l) n D H) (g : Tells (Arc l) n E (fun a b => decide (E a b < farI))) {a b : Nat} (ha : a < n) (hb : b < n) :
    (if E a b < farI then (⟨-(E b a), E a b⟩ : RSpan) else ⟨0, 0⟩) = bndS D H a b := by
  have hh := h.has g ha hb
  unfold bndS
  by_cases hlt : E a b < farI
  · have hg : H a b = true := hh.trans (decide_eq_true hlt)
    rw [if_pos hlt, if_pos hg, h.same g ha hb hg, h.same g hb ha (tells_rev h ha hb hg)]
  · have hg : H a b = false := hh.trans (decide_eq_false hlt)
    rw [if_neg hlt, if_neg (by rw [hg]; simp)]
/-- what All answers, in the document's words. -/
theorem all_tell {N : Nat} {zs : List REdge} {w w' : World} {e : Ending} {D : Nat → Nat → Int} {H : Nat → Nat → Bool} {F : Int} (h : AllP N zs w w' e) (hs : ¬ Sunk (Arc zs) N) (hD : Tells (Arc zs) N D H) (hF : TimeS N D H F) :
    ∃ (A : Option Addr) (n c : Nat) (B : Option Addr) (m d : Nat), e = .returned (.tuple #[.slice A n c, .slice B m d, errV F]) ∧ Below w.heap.size w w' ∧
      (F = 0 → IsMat w' RSpan.cells 2 A n c N (bndS D H) ∧ IsMat w' boolCells 1 B m d N H) := by
  obtain ⟨A, n, c, B, m, d, k, he, hb, h⟩ := h
  rcases h with ⟨h, _⟩ | ⟨_, E, hE, h⟩
  · exact absurd h hs
  · refine ⟨A, n, c, B, m, d, ?_, hb, fun hF0 => ?_⟩
    · have : k = F := by
        rcases h with ⟨h1, a, b, ha, hb, h2⟩ | ⟨h1, h2, _⟩ <;> rcases hF with ⟨g1, g2⟩ | ⟨g1, a', b', ha', hb', g2, g3⟩
        · exact absurd (time_no hD hE g2 ha hb) h2
        · rw [h1, g1]
        · rw [h1, g1]
        · have := time_yes hD hE ha' hb' (h2 a' b' ha' hb') g2
          rw [g3] at this; cases this
      rw [he, this]
    · rcases h with ⟨h1, a, b, ha, hb, h2⟩ | ⟨h1, h2, h3, h4⟩
      · rcases hF with ⟨g1, g2⟩ | ⟨g1, _⟩
        · exact absurd (time_no hD hE g2 ha hb) h2
        · omega
      · exact ⟨h3.congr (fun a b ha hb => bnd_same hD hE ha hb), h4.congr (fun a b ha hb => (hD.has hE ha hb).symm)⟩
/-- what Between answers, in the document's words. -/
theorem bet_tell {N : Nat} {zs : List REdge} {a b : Int} {x : RSpan} {c F : Int} {D : Nat → Nat → Int} {H : Nat → Nat → Bool} (h : BetS N zs a b x c) (hc : edgesC N zs = 0) (hs : ¬ Sunk (Arc zs) N) (hD : Tells (Arc zs) N D H) (hF : TimeS N D H F) :
    ((nodeB N a && nodeB N b) = false ∧ c = 1 ∧ x = ⟨0, 0⟩) ∨ (∃ i j : Nat, a = i ∧ b = j ∧ i < N ∧ j < N ∧
      ((F = 1 ∧ c = 1 ∧ x = ⟨0, 0⟩) ∨ (F = 0 ∧ ((H i j = false ∧ c = 5 ∧ x = ⟨0, 0⟩) ∨ (H i j = true ∧ c = 0 ∧ x = ⟨-(D j i), D i j⟩))))) := by
  rcases h with ⟨h, _⟩ | ⟨_, h1, h2, h3⟩ | ⟨_, h1, h⟩
  · exact absurd hc h
  · exact .inl ⟨h1, h2, h3⟩
  · right
    simp only [Bool.and_eq_true, nodeB_iff] at h1
    obtain ⟨⟨p1, p2⟩, p3, p4⟩ := h1
    obtain ⟨i, rfl⟩ := Int.eq_ofNat_of_zero_le p1
    obtain ⟨j, rfl⟩ := Int.eq_ofNat_of_zero_le p3
    have hi : i < N := by omega
    have hj : j < N := by omega
    simp only [Int.toNat_natCast] at h
    refine ⟨i, j, rfl, rfl, hi, hj, ?_⟩
    rcases h with ⟨h, _⟩ | ⟨_, E, hE, h⟩
    · exact absurd h hs
    · rcases h with ⟨⟨p, q, hp, hq, h1⟩, h2, h3⟩ | ⟨h1, h2⟩
      · left
        rcases hF with ⟨g1, g2⟩ | ⟨g1, _⟩
        · exact absurd (time_no hD hE g2 hp hq) h1
        · exact ⟨g1, h2, h3⟩
      · right
        have hF0 : F = 0 := by
          rcases hF with ⟨g1, g2⟩ | ⟨g1, a', b', ha', hb', g2, g3⟩
          · exact g1
          · have := time_yes hD hE ha' hb' (h1 a' b' ha' hb') g2
            rw [g3] at this; cases this
        refine ⟨hF0, ?_⟩
        rcases h2 with ⟨q1, q2, q3⟩ | ⟨q1, q2, q3⟩
        · exact .inl ⟨(hD.has hE hi hj).trans (decide_eq_false q1), q2, q3⟩
        · have hg : H i j = true := (hD.has hE hi hj).trans (decide_eq_true q1)
          exact .inr ⟨hg, q2, by rw [q3, hD.same hE hi hj hg, hD.same hE hj hi (tells_rev hD hi hj hg)]⟩
end Go.Proofs.YtmficdfihogffaaDoor

/- What a net tells of two clocks, and how wide all are, in the document's words. No program stands here. -/
namespace Go.Proofs.YtmficdfihogffaaDoor
open Go.RowKit
set_option linter.unusedVariables false
set_option linter.unusedSimpArgs false
/-- what the document's net tells of two clocks; the fault. -/
def BetR (N : Nat) (zs : List REdge) (a b : Int) (x : RSpan) (c : Int) : Prop :=
  (Sunk (Arc zs) N ∧ c = 7 ∧ x = ⟨0, 0⟩) ∨ (¬ Sunk (Arc zs) N ∧ ∃ (D : Nat → Nat → Int) (H : Nat → Nat → Bool), Tells (Arc zs) N D H ∧
    ((TimeS N D H 1 ∧ c = 1 ∧ x = ⟨0, 0⟩) ∨ (TimeS N D H 0 ∧ ∃ i k : Nat, a = i ∧ b = k ∧ i < N ∧ k < N ∧ ((H i k = false ∧ c = 5 ∧ x = ⟨0, 0⟩) ∨ (H i k = true ∧ c = 0 ∧ x = ⟨-(D k i), D i k⟩)))))
def OffR (n : Nat) (h : Nat → Int) (S : Nat → NSt) (a b : Int) (x : RSpan) (c : Int) : Prop :=
  ((nodeB n a && nodeB n b) = false ∧ c = 1 ∧ x = ⟨0, 0⟩) ∨ ((nodeB n a && nodeB n b) = true ∧ ((netC h S n ≠ 0 ∧ c = netC h S n ∧ x = ⟨0, 0⟩) ∨ (netC h S n = 0 ∧ BetR n (netL h S n) a b x c)))
theorem bet_one_way {N : Nat} {zs : List REdge} {a b : Int} {x y : RSpan} {c d : Int} (hc : edgesC N zs = 0) (hn : (nodeB N a && nodeB N b) = true) (h : BetS N zs a b x c) (g : BetR N zs a b y d) : x = y ∧ c = d := by
  rcases g with ⟨g, rfl, rfl⟩ | ⟨g, D, H, hD, g2⟩
  · rcases h with ⟨h, _⟩ | ⟨_, h, _⟩ | ⟨_, _, ⟨_, h1, h2⟩ | ⟨h, _⟩⟩
    · exact absurd hc h
    · rw [hn] at h; cases h
    · exact ⟨h2, h1⟩
    · exact absurd g h
  · rcases g2 with ⟨hF, rfl, rfl⟩ | ⟨hF, i, k, rfl, rfl, hi, hk, g3⟩
    · rcases bet_tell h hc g hD hF with ⟨h, _⟩ | ⟨i, j, _, _, _, _, ⟨_, h1, h2⟩ | ⟨h, _⟩⟩
      · rw [hn] at h; cases h
      · exact ⟨h2, h1⟩
      · exact absurd h (by decide)
    · rcases bet_tell h hc g hD hF with ⟨h, _⟩ | ⟨i', j', hi', hj', _, _, ⟨h, _⟩ | ⟨_, h3⟩⟩
      · rw [hn] at h; cases h
      · exact absurd h (by decide)
      · obtain rfl : i = i' := by omega
        obtain rfl : k = j' := by omega
        rcases h3 with ⟨q1, q2, q3⟩ | ⟨q1, q2, q3⟩ <;> rcases g3 with ⟨p1, p2, p3⟩ | ⟨p1, p2, p3⟩
        · exact ⟨q3.trans p3.symm, q2.trans p2.symm⟩
        · rw [q1] at p1; cases p1
        · rw [q1] at p1; cases p1
        · exact ⟨q3.trans p3.symm, q2.trans p2.symm⟩
theorem off_same {n : Nat} {h : Nat → Int} {S : Nat → NSt} {a b : Int} {x y : RSpan} {c d : Int} (he : netC h S n = 0 → edgesC n (netL h S n) = 0) (p : OffS n h S a b x c) (q : OffR n h S a b y d) : x = y ∧ c = d := by
  rcases p with ⟨p1, p2, p3⟩ | ⟨p1, p2⟩ <;> rcases q with ⟨q1, q2, q3⟩ | ⟨q1, q2⟩
  · exact ⟨p3.trans q3.symm, p2.trans q2.symm⟩
  · rw [p1] at q1; cases q1
  · rw [p1] at q1; cases q1
  · rcases p2 with ⟨p2, p3, p4⟩ | ⟨p2, p3⟩ <;> rcases q2 with ⟨q2, q3, q4⟩ | ⟨q2, q3⟩
    · exact ⟨p4.trans q4.symm, p3.trans q3.symm⟩
    · exact absurd q2 p2
    · exact absurd p2 q2
    · exact bet_one_way (he p2) p1 p3 q3
/-- how wide all are, in the document's words. -/
def wideG (D : Nat → Nat → Int) (H : Nat → Nat → Bool) (i k : Nat) : Int := if H i k = true then D i k + D k i else 0
def WideD (N : Nat) (l : List REdge) (v c : Int) : Prop :=
  (Sunk (Arc l) N ∧ c = 7 ∧ v = 0) ∨ (¬ Sunk (Arc l) N ∧ ∃ (D : Nat → Nat → Int) (H : Nat → Nat → Bool), Tells (Arc l) N D H ∧ ((TimeS N D H 1 ∧ c = 1 ∧ v = 0) ∨ (TimeS N D H 0 ∧ c = 0 ∧ v = wideAll (wideG D H) N N)))
def WideA (n : Nat) (h : Nat → Int) (S : Nat → NSt) (v c : Int) : Prop := (netC h S n ≠ 0 ∧ c = netC h S n ∧ v = 0) ∨ (netC h S n = 0 ∧ WideS n (netL h S n) v c)
def WideR (n : Nat) (h : Nat → Int) (S : Nat → NSt) (v c : Int) : Prop := (netC h S n ≠ 0 ∧ c = netC h S n ∧ v = 0) ∨ (netC h S n = 0 ∧ WideD n (netL h S n) v c)
theorem wideRow_congr {F G : Nat → Nat → Int} {N i : Nat} (hi : i < N) (h : ∀ i k, i < N → k < N → F i k = G i k) : ∀ m, i + 1 + m ≤ N → wideRow F i m = wideRow G i m
  | 0, _ => rfl
  | m + 1, hm => by
    show wideRow F i m + F i (i + 1 + m) = wideRow G i m + G i (i + 1 + m)
    rw [wideRow_congr hi h m (by omega), h i (i + 1 + m) hi (by omega)]
theorem wideAll_congr {F G : Nat → Nat → Int} {N : Nat} (h : ∀ i k, i < N → k < N → F i k = G i k) : ∀ i, i ≤ N → wideAll F N i = wideAll G N i
  | 0, _ => rfl
  | i + 1, hi => by
    show wideAll F N i + wideRow F i (N - (i + 1)) = wideAll G N i + wideRow G i (N - (i + 1))
    rw [wideAll_congr h i (by omega), wideRow_congr (show i < N by omega) h (N - (i + 1)) (by omega)]
theorem wide_one_way {N : Nat} {l : List REdge} {v u c d : Int} (h : WideS N l v c) (g : WideD N l u d) : v = u ∧ c = d := by
  rcases g with ⟨g, rfl, rfl⟩ | ⟨g, D, H, hD, g2⟩ <;> rcases h with ⟨h, rfl, rfl⟩ | ⟨h, E, hE, h2⟩
  · exact ⟨rfl, rfl⟩
  · exact absurd g h
  · exact absurd h g
  · rcases g2 with ⟨hF, rfl, rfl⟩ | ⟨hF, rfl, rfl⟩ <;> rcases h2 with ⟨rfl, rfl, a, b, ha, hb, h3⟩ | ⟨rfl, h3, rfl⟩
    · exact ⟨rfl, rfl⟩
    · rcases hF with ⟨hF, _⟩ | ⟨_, a, b, ha, hb, h4, h5⟩
      · exact absurd hF (by decide)
      · have := time_yes hD hE ha hb (h3 a b ha hb) h4
        rw [h5] at this; cases this
    · rcases hF with ⟨_, hF⟩ | ⟨hF, _⟩
      · exact absurd (time_no hD hE hF ha hb) h3
      · exact absurd hF (by decide)
    · refine ⟨wideAll_congr (fun i k hi hk => ?_) N (Nat.le_refl _), rfl⟩
      unfold wideF wideG
      have hh := hD.has hE hi hk
      by_cases q : E i k < farI
      · have hg : H i k = true := hh.trans (decide_eq_true q)
        rw [if_pos q, if_pos hg, hD.same hE hi hk hg, hD.same hE hk hi (tells_rev hD hi hk hg)]
      · have hg : H i k = false := hh.trans (decide_eq_false q)
        rw [if_neg q, if_neg (by rw [hg]; simp)]
theorem wide_same {n : Nat} {h : Nat → Int} {S : Nat → NSt} {v u c d : Int} (p : WideA n h S v c) (q : WideR n h S u d) : v = u ∧ c = d := by
  rcases p with ⟨p1, p2, p3⟩ | ⟨p1, p2⟩ <;> rcases q with ⟨q1, q2, q3⟩ | ⟨q1, q2⟩
  · exact ⟨p3.trans q3.symm, p2.trans q2.symm⟩
  · exact absurd q1 p1
  · exact absurd p1 q1
  · exact wide_one_way p2 q2
end Go.Proofs.YtmficdfihogffaaDoor

/- Package net: Wide of any net, walked. -/
namespace Go.Proofs.YtmficdfihogffaaDoor
open Go.RowKit
set_option linter.unusedVariables false
set_option linter.unusedSimpArgs false
set_option maxRecDepth 100000 in
set_option maxHeartbeats 8000000 in
theorem net_Wide (a : NAd) (ss rs : List Int) (p t : Int) (uv : Value) (us : List RLetter) (K : Nat) (S : Nat → NSt) (w : World) (h : NetAt w a ss rs p t uv us K S) :
    Calls Tryd.prog 14 #[.pointer (some ⟨a.N, 0, none⟩)] w fun e w' => ∃ v c : Int, e = .returned (.tuple #[.int .i64 v, errV c]) ∧ WideA a.n (hereAt ss rs t) S v c ∧ Below w.heap.size w w' := by
  by_cases hc : netC (hereAt ss rs t) S a.n = 0
  · refine (net_Wide_ok a ss rs p t uv us K S w h hc (netL_edgesC h.W.n1 h.W.n6 (fun i hi => ⟨(h.sN i hi).1, (h.sN i hi).2.1⟩) hc)).mono ?_
    rintro e w' ⟨v, c, rfl, hS, hb⟩
    exact ⟨v, c, rfl, .inr ⟨hc, hS⟩, hb⟩
  · have CE := Lib.hid (net_Edges a ss rs p t uv us K S w h)
    have HO := Lib.hid (show WideA a.n (hereAt ss rs t) S 0 (netC (hereAt ss rs t) S a.n) from .inl ⟨hc, rfl, rfl⟩)
    obtain ⟨cc, hcc⟩ : ∃ cc, netC (hereAt ss rs t) S a.n = cc := ⟨_, rfl⟩
    rw [hcc] at hc CE HO
    clear h hcc
    have hr := Lib.hid (errV_ne hc)

    go_enter Tryd.func14, Tryd.ntmps14
    go_wp2_with fail
    refine CE.out.mono ?_
    rintro e w1 ⟨A, n, c, rfl, hI, hb1⟩
    have HB1 := Lib.hid hb1
    clear hI hb1 CE
    rw [hr.out]
    go_wp2_with fail
    refine bodyPost_ret (v := .tuple #[.int .i64 0, .iface 75 (.int .i64 cc)]) (by simp [results, Tryd.results14, go_sem]) rfl ?_
    exact ⟨0, cc, by rw [hr.out], HO.out, HB1.out⟩
end Go.Proofs.YtmficdfihogffaaDoor

/- The reference's net: the edges of all nodes, walked. -/
namespace Go.Proofs.YtmficdfihogffaaDoor
open Go.RowKit
set_option linter.unusedVariables false
set_option linter.unusedSimpArgs false
variable {W0 w w' : World} {b : SAd} {A1 A2 : Option Addr} {c1 c2 : Nat} {p t t' : Int} {uv uv' : Value} {us us' : List RLetter} {S : Nat → NSt}
set_option maxRecDepth 100000 in
set_option maxHeartbeats 8000000 in
theorem snet_Edges (ss rs : List Int) (h : SNetAt W0 w b A1 A2 c1 c2 p t uv us S) (i1 : IsInts W0 A1 b.n c1 ss) (i2 : IsInts W0 A2 b.n c2 rs) (n6 : b.n ≤ 6) (sb : ∀ (i : Nat) z, ss[i]? = some z → 0 ≤ z ∧ z ≤ 1000000) (rb : ∀ (i : Nat) z, rs[i]? = some z → -1000 ≤ z ∧ z ≤ 1000) :
    Calls Tryd.prog 15 #[.pointer (some ⟨b.M, 0, none⟩)] w fun e w' => EdgesToldR w w' e (netE (hereAt ss rs t) S b.n) (netC (hereAt ss rs t) S b.n) := by
  obtain ⟨i0, hi, hz0, hz1, hz2⟩ := info_parts infoEdgeT
  have HU := Lib.hid h
  have kM := h.W.blk.lt
  have hnc := h.nd.1
  have hcm := h.nd.2
  unfold maxLen at hcm
  have kq : b.Q < w.heap.size := Nat.lt_of_lt_of_le h.Qo.2.1 h.W.Bw
  have HLens := Lib.hid (fun k hk => netL_len (h := hereAt ss rs t) (S := S) (n := b.n) (fun i hi => (h.sN i hi).1) k hk)
  have HEok := Lib.hid (fun k (hk : k ≤ b.n) => show ∀ z ∈ netL (hereAt ss rs t) S k, z.ok from fun z hz => by
    obtain ⟨i, hi, hz⟩ := List.mem_flatMap.1 hz
    exact tellE_ok (h.at_ i (by have := List.mem_range.1 hi; omega)).ok z hz)
  have ls := i1.1
  have lr := i2.1
  have HI1 := Lib.hid i1
  have HI2 := Lib.hid i2
  clear h i1 i2
  go_enter Tryd.func15, Tryd.ntmps15
  go_wp2_with fail
  go_loopw [4, 5] (fun vv iv wr => ∃ i : Nat, iv = .int .i64 i ∧ i ≤ b.n ∧ netC (hereAt ss rs t) S i = 0 ∧ wr.ownsRow w.heap.size 108 4 vv (netL (hereAt ss rs t) S i).length ((netL (hereAt ss rs t) S i).flatMap REdge.cells) ∧ Below w.heap.size w wr) (fun _ iv _ => b.n - (intOf iv).toNat)
  case atStart => exact ⟨0, rfl, by omega, rfl, by simpa [netL] using own_nil _ _ _ _, Below.refl _ _⟩
  case round =>
    obtain ⟨i, rfl, hi', hC, hO, hB⟩ := hrel
    have HO := Lib.hid hO
    have HBr := Lib.hid hB
    have HC := Lib.hid hC
    have hzr := hB.size
    have HNr := Lib.hid (HU.out.below hB)
    have z4 : wr.cell? ⟨b.M, 4, none⟩ = some (.slice (some ⟨b.Q, 0, none⟩) b.n b.d) := HNr.out.W.blk.cell 4
    by_cases d1 : i < b.n
    · have zr : wr.cell? ⟨b.Q, i, none⟩ = some (.pointer (some ⟨b.gi i, 0, none⟩)) := HNr.out.row i d1
      have g1 : (i : Int) < (b.n : Int) := by omega
      obtain ⟨sv, hs⟩ : ∃ z, ss[i]? = some z := ⟨_, List.getElem?_eq_getElem (by omega)⟩
      obtain ⟨rv, hr⟩ : ∃ z, rs[i]? = some z := ⟨_, List.getElem?_eq_getElem (by omega)⟩
      have CR := Lib.hid (by have := r2_WRead W0 b.M b.B b.n A1 A2 c1 c2 ss rs t uv us i sv rv wr HNr.out.W HI1.out HI2.out hs hr (sb i sv hs) (rb i rv hr); rw [← hereAt_eq hs hr] at this; exact this)
      have hq : b.Q < wr.heap.size := by omega
      have hlen := HLens.out i (by omega)
      have hmul : i * b.n ≤ 36 := by have := Nat.mul_le_mul (show i ≤ 6 by omega) n6; omega
      obtain ⟨L, hL⟩ : ∃ L, netL (hereAt ss rs t) S i = L := ⟨_, rfl⟩
      rw [hL] at HO hlen
      have HL := Lib.hid hL
      obtain ⟨here, hhere⟩ : ∃ v, hereAt ss rs t i = v := ⟨_, rfl⟩
      rw [hhere] at CR
      have HH := Lib.hid hhere
      clear hO hB hC hs hr hL hhere
      go_wp2_with fail
      refine CR.out.mono ?_
      rintro e w2 ⟨rfl, hb2⟩
      have HB2 := Lib.hid hb2
      have hz2' := hb2.size
      have HN2 := Lib.hid (HNr.out.below hb2)
      have y4 : w2.cell? ⟨b.M, 4, none⟩ = some (.slice (some ⟨b.Q, 0, none⟩) b.n b.d) := HN2.out.W.blk.cell 4
      have yr : w2.cell? ⟨b.Q, i, none⟩ = some (.pointer (some ⟨b.gi i, 0, none⟩)) := HN2.out.row i d1
      have CE := Lib.hid (r2_Edges (b.gi i) (S i) here w2 (HN2.out.at_ i d1))
      clear hb2 CR z4 zr HN2
      go_wp2_with fail
      refine CE.out.mono ?_
      rintro e w3 ⟨A3, n3, k3, rfl, hI3, hb3⟩
      have HB3 := Lib.hid (HB2.out.trans (hb3.mono HB2.out.size))
      have hz3 := HB3.out.size
      by_cases hc : tellC (S i) here = 0
      · have hn3 : n3 = (tellE (S i) here).length := hI3.1.symm
        have hlt : n3 ≤ 6 := by rw [hn3]; have := tellE_len (S i) here; rw [(HU.out.sN i d1).1] at this; omega
        have HI3 := Lib.hid hI3
        have HN3 := Lib.hid hn3
        have HO3 := Lib.hid (own_below HO.out HB3.out)
        have HCC := Lib.hid (show netC (hereAt ss rs t) S (i + 1) = 0 by show (if netC (hereAt ss rs t) S i = 0 then tellC (S i) (hereAt ss rs t i) else _) = 0; rw [if_pos HC.out, HH.out]; exact hc)
        rw [hc]
        clear hI3 hb3 CE hn3 HO hc y4 yr
        go_wp2_with (at_builtin; refine wpList_append_recs REdge.cells REdge.ok 4 (fun _ => rfl) edge_oneT _ rfl _ _ 47 rfl w.heap.size 108 i0 _ 32 Tryd.underlying47 hi hz0 hz1 hz2 rfl (by decide) _ L.length (L.flatMap REdge.cells) rfl HO3.out A3 n3 k3 (tellE (S i) here) rfl HI3.out (by unfold maxLen; omega) (by omega) (by omega) ?_; intro v5 w5 ho5 hg5)
        have HO5 := Lib.hid (show w5.ownsRow w.heap.size 108 4 v5 (netL (hereAt ss rs t) S (i + 1)).length ((netL (hereAt ss rs t) S (i + 1)).flatMap REdge.cells) from by
          rw [netL_succ, HH.out, HL.out, List.length_append, List.flatMap_append, ← HN3.out]; exact ho5)
        have HB5 := Lib.hid ((HBr.out.trans (HB3.out.mono hzr)).grown hg5 (by omega) (fun k hk => (HO3.out.lt k hk).1))
        clear ho5 hg5 HO3 HI3
        go_wp2_with fail
        go_roundw
        case rel => exact ⟨i + 1, by go_num, by omega, HCC.out, HO5.out, HB5.out⟩
        case measure => go_light; simp [intOf]; omega
      · have HCC := Lib.hid (show netC (hereAt ss rs t) S b.n = tellC (S i) here by
          have e : netC (hereAt ss rs t) S (i + 1) = tellC (S i) here := by show (if netC (hereAt ss rs t) S i = 0 then tellC (S i) (hereAt ss rs t i) else _) = _; rw [if_pos HC.out, HH.out]
          rw [← e]; exact netC_stays (by rw [e]; exact hc) (by omega))
        have HEE := Lib.hid (show netE (hereAt ss rs t) S b.n = [] by unfold netE; rw [HCC.out, if_neg hc])
        have HBw := Lib.hid (HBr.out.trans (HB3.out.mono hzr))
        obtain ⟨c, hcc⟩ : ∃ c, tellC (S i) here = c := ⟨_, rfl⟩
        rw [hcc] at hc HCC ⊢
        have b1 : (c != 0) = true := by simp [hc]
        have b2 : decide (c = 0) = false := by simp [hc]
        clear hI3 hb3 CE hcc hc y4 yr
        go_wp2_with fail
        refine bodyPost_ret (v := .tuple #[.slice none 0 0, .int .i64 c]) (by simp [results, Tryd.results15, go_sem]) rfl ?_
        exact ⟨none, 0, 0, by rw [HCC.out], by rw [HEE.out]; exact recs_nil _ _ _ _, HBw.out⟩
    · obtain rfl : i = b.n := by omega
      obtain ⟨A9, n9, c9, e9, hI9⟩ := own_recs REdge.cells REdge.ok 4 (fun _ => rfl) hO (HEok.out b.n (Nat.le_refl _))
      have HI9 := Lib.hid hI9
      have HEE := Lib.hid (show netE (hereAt ss rs t) S b.n = netL (hereAt ss rs t) S b.n by unfold netE; rw [if_pos hC])
      rw [e9]
      clear hO HO hB hI9 e9 hC
      go_wp2_with fail
      refine bodyPost_ret (v := .tuple #[.slice A9 n9 c9, .int .i64 0]) (by simp [results, Tryd.results15, go_sem]) rfl ?_
      exact ⟨_, _, _, by rw [HC.out], by rw [HEE.out]; exact HI9.out, HBr.out⟩
end Go.Proofs.YtmficdfihogffaaDoor
