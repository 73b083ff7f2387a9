/- A net in memory: its world, its nodes. -/
import Derived.Test.YtfjpfkejajgkbaaDoorHActsW
import Derived.Test.YtfjpfkejajgkbaaDoorHNodeE
import Derived.Test.YtfjpfkejajgkbaaDoorHNodeF
namespace Go.Proofs.YtfjpfkejajgkbaaDoor
open Go.RowKit
set_option linter.unusedVariables false
set_option linter.unusedSimpArgs false
/-- where a net lies. -/
structure NAd where
  N : Nat
  g : Nat
  B : Nat
  q : Nat
  n : Nat
  c : Nat
  gi : Nat → Nat
  mb : Nat → Nat
structure NAd.Fine (a : NAd) : Prop where
  BN : a.B ≤ a.N
  Bq : a.B ≤ a.q
  qN : a.q ≠ a.N
  Bg : ∀ i, i < a.n → a.B ≤ a.gi i ∧ a.B ≤ a.mb i ∧ a.gi i ≠ a.N ∧ a.mb i ≠ a.N ∧ a.gi i ≠ a.q ∧ a.mb i ≠ a.q
  dd : ∀ i j, i < a.n → j < a.n → i ≠ j → a.gi i ≠ a.gi j ∧ a.gi i ≠ a.mb j ∧ a.mb i ≠ a.mb j
structure NetAt (w : World) (a : NAd) (ss rs : List Int) (p t : Int) (uv : Value) (us : List RLetter) (K : Nat) (S : Nat → NSt) : Prop where
  net : Blk w a.N 83 #[.pointer (some ⟨a.g, 0, none⟩), .slice (some ⟨a.q, 0, none⟩) a.n a.c]
  W : WorldU w a.g a.B a.n ss rs t uv us
  row : ∀ i, i < a.n → w.cell? ⟨a.q, i, none⟩ = some (.pointer (some ⟨a.gi i, 0, none⟩))
  ql : a.q < w.heap.size
  nc : a.n ≤ a.c ∧ a.c ≤ maxLen
  nd : ∀ i, i < a.n → NodeAt w (a.gi i) (a.mb i) K (S i)
  sN : ∀ i, i < a.n → (S i).N = a.n ∧ (S i).id = i ∧ (S i).p = p
  ad : a.Fine
  du : ∀ u, uv.ownBlock = some u → u ≠ a.N ∧ u ≠ a.q ∧ ∀ i, i < a.n → u ≠ a.gi i ∧ u ≠ a.mb i
  has : ∀ L ∈ us, LHas a.n L
/-- what a net's acts may turn. -/
def NetMine (a : NAd) (uv : Value) (k : Nat) : Prop := k = a.g ∨ uv.ownBlock = some k ∨ ∃ i, i < a.n ∧ (k = a.gi i ∨ k = a.mb i)
def updS (S : Nat → NSt) (d : Nat) (s : NSt) (i : Nat) : NSt := if i = d then s else S i
variable {w w' : World} {a : NAd} {ss rs : List Int} {p t t' : Int} {uv uv' : Value} {us us' : List RLetter} {K K' : Nat} {S : Nat → NSt}
theorem NetAt.below (h : NetAt w a ss rs p t uv us K S) (hb : Below w.heap.size w w') : NetAt w' a ss rs p t uv us K S :=
  ⟨h.net.below hb h.net.lt, h.W.below hb, fun i hi => (hb.cell (p := ⟨a.q, i, none⟩) h.ql).trans (h.row i hi), Nat.lt_of_lt_of_le h.ql hb.size, h.nc, fun i hi => (h.nd i hi).below hb, h.sN, h.ad, h.du, h.has⟩
theorem NetAt.mono (h : NetAt w a ss rs p t uv us K S) (hK : K ≤ K') : NetAt w a ss rs p t uv us K' S :=
  ⟨h.net, h.W, h.row, h.ql, h.nc, fun i hi => (h.nd i hi).mono hK, h.sN, h.ad, h.du, h.has⟩
theorem NetAt.g_ne (h : NetAt w a ss rs p t uv us K S) : a.g < a.B := h.W.gB
/-- an act of the world. -/
theorem NetAt.world (h : NetAt w a ss rs p t uv us K S) (hW : WorldU w' a.g a.B a.n ss rs t' uv' us') (hK : Kept (Mine a.g uv) w w') (hq : ∀ q, uv'.ownBlock = some q → uv.ownBlock = some q ∨ w.heap.size ≤ q) (hu : ∀ L ∈ us', LHas a.n L) : NetAt w' a ss rs p t' uv' us' K S := by
  have gB := h.W.gB
  have ad := h.ad
  have hn : ∀ k, (k = a.N ∨ k = a.q ∨ ∃ i, i < a.n ∧ (k = a.gi i ∨ k = a.mb i)) → ¬ Mine a.g uv k := by
    intro k hk e
    have hk2 : a.B ≤ k := by
      rcases hk with rfl | rfl | ⟨i, hi, rfl | rfl⟩
      · exact ad.BN
      · exact ad.Bq
      · exact (ad.Bg i hi).1
      · exact (ad.Bg i hi).2.1
    rcases e with e | e
    · omega
    · obtain ⟨d1, d2, d3⟩ := h.du k e
      rcases hk with hk | hk | ⟨i, hi, hk | hk⟩
      · exact d1 hk
      · exact d2 hk
      · exact (d3 i hi).1 hk
      · exact (d3 i hi).2 hk
  refine ⟨(hK.block a.N h.net.lt (hn _ (.inl rfl))).trans h.net, hW, fun i hi => (World.cell?_of_block (hK.block a.q h.ql (hn _ (.inr (.inl rfl))))).trans (h.row i hi), Nat.lt_of_lt_of_le h.ql hK.size, h.nc, fun i hi => (h.nd i hi).other hK (hn _ (.inr (.inr ⟨i, hi, .inl rfl⟩))) (hn _ (.inr (.inr ⟨i, hi, .inr rfl⟩))), h.sN, h.ad, fun u e => ?_, hu⟩
  rcases hq u e with h1 | h1
  · exact h.du u h1
  · have := h.net.lt
    have := h.ql
    refine ⟨by omega, by omega, fun i hi => ⟨?_, ?_⟩⟩
    · have := (h.nd i hi).blk.lt; omega
    · have := (h.nd i hi).mp.lt; omega
/-- a node that hears. -/
theorem NetAt.hear {d : Nat} {s' : NSt} (h : NetAt w a ss rs p t uv us K S) (hd : d < a.n) (hN : NodeAt w' (a.gi d) (a.mb d) K' s') (hKK : K ≤ K') (hK : Kept (NMine (a.gi d) (a.mb d)) w w') (hs : s'.N = a.n ∧ s'.id = d ∧ s'.p = p) : NetAt w' a ss rs p t uv us K' (updS S d s') := by
  have ad := h.ad
  obtain ⟨b1, b2, b3, b4, b5, b6⟩ := ad.Bg d hd
  refine ⟨(hK.block a.N h.net.lt (fun e => by rcases e with e | e <;> omega)).trans h.net, h.W.other hK (fun k e => ?_), fun i hi => (World.cell?_of_block (hK.block a.q h.ql (fun e => by rcases e with e | e <;> omega))).trans (h.row i hi), Nat.lt_of_lt_of_le h.ql hK.size, h.nc, fun i hi => ?_, fun i hi => ?_, h.ad, h.du, h.has⟩
  · refine ⟨by rcases e with e | e <;> omega, fun e2 => ?_⟩
    obtain ⟨_, _, d3⟩ := h.du k e2
    rcases e with e | e
    · exact (d3 d hd).1 e
    · exact (d3 d hd).2 e
  · unfold updS
    by_cases c : i = d
    · subst c; rw [if_pos rfl]; exact hN
    · rw [if_neg c]
      obtain ⟨e1, e2, e3⟩ := ad.dd i d hi hd c
      obtain ⟨f1, f2, f3⟩ := ad.dd d i hd hi (fun e => c e.symm)
      exact ((h.nd i hi).mono hKK).other hK (fun e => by rcases e with e | e; exact e1 e; exact e2 e) (fun e => by rcases e with e | e; exact f2 e.symm; exact e3 e)
  · unfold updS
    by_cases c : i = d
    · subst c; rw [if_pos rfl]; exact hs
    · rw [if_neg c]; exact h.sN i hi
theorem Hears.keeps {s s' : NSt} {L : RLetter} {here : Int} {b : Bool} {c : Int} (h : Hears s L here b c s') : s'.N = s.N ∧ s'.id = s.id ∧ s'.p = s.p := by
  cases h <;> exact ⟨rfl, rfl, rfl⟩
/-- a net's act: its fault, and what is so then. -/
inductive NAct (n : Nat) (ss rs : List Int) (t : Int) (us : List RLetter) (S : Nat → NSt) : RAct → Int → Int → List RLetter → (Nat → NSt) → Prop
  | quiet (A : RAct) (c t' : Int) (us' : List RLetter) (h : WAct n ss rs t us A c none t' us') : NAct n ss rs t us S A c t' us' S
  | bad (A : RAct) (t' : Int) (us' : List RLetter) (L : RLetter) (d : Nat) (s r : Int) (b : Bool) (c : Int) (s' : NSt) (h : WAct n ss rs t us A 0 (some L) t' us') (hd : L.dst = (d : Int)) (hs : ss[d]? = some s) (hr : rs[d]? = some r) (hh : Hears (S d) L (readV s r t') b c s') (hc : c ≠ 0) : NAct n ss rs t us S A c t' us' (updS S d s')
  | told (A : RAct) (t' : Int) (us' : List RLetter) (L : RLetter) (d : Nat) (s r : Int) (b : Bool) (s' : NSt) (h : WAct n ss rs t us A 0 (some L) t' us') (hd : L.dst = (d : Int)) (hs : ss[d]? = some s) (hr : rs[d]? = some r) (hh : Hears (S d) L (readV s r t') b 0 s') (ha : L.answer = true) : NAct n ss rs t us S A 0 t' us' (updS S d s')
  | asked (A : RAct) (t' : Int) (us' us'' : List RLetter) (L : RLetter) (d : Nat) (s r : Int) (b : Bool) (c : Int) (s' : NSt) (h : WAct n ss rs t us A 0 (some L) t' us') (hd : L.dst = (d : Int)) (hs : ss[d]? = some s) (hr : rs[d]? = some r) (hh : Hears (S d) L (readV s r t') b 0 s') (ha : L.answer = false) (hw : WAns n ss rs t' us' L c us'') : NAct n ss rs t us S A c t' us'' (updS S d s')
theorem nact_total (n : Nat) (ss rs : List Int) (t : Int) (us : List RLetter) (S : Nat → NSt) (A : RAct) (ls : ss.length = n) (lr : rs.length = n) (hu : ∀ L ∈ us, LHas n L) : ∃ c t' us' S', NAct n ss rs t us S A c t' us' S' := by
  obtain ⟨c, got, t', us', h⟩ := act_total n ss rs t us A ls lr
  cases got with
  | none => exact ⟨_, _, _, _, .quiet A c t' us' h⟩
  | some L =>
    obtain ⟨_, hg⟩ := h.has ls hu
    obtain ⟨⟨_, hL⟩, rfl, _, _⟩ := hg L rfl
    obtain ⟨d, hd⟩ : ∃ d : Nat, L.dst = (d : Int) := ⟨L.dst.toNat, by omega⟩
    have hdn : d < n := by omega
    have hs : ss[d]? = some ss[d] := List.getElem?_eq_getElem (by omega)
    have hr : rs[d]? = some rs[d] := List.getElem?_eq_getElem (by omega)
    obtain ⟨b, c, s', hh⟩ := hears_total (S d) L (readV ss[d] rs[d] t')
    by_cases hc : c = 0
    · subst hc
      cases ha : L.answer
      · obtain ⟨c2, us'', hw⟩ := ans_total n ss rs t' us' L ls lr
        exact ⟨_, _, _, _, .asked A t' us' us'' L d _ _ b c2 s' h hd hs hr hh ha hw⟩
      · exact ⟨_, _, _, _, .told A t' us' L d _ _ b s' h hd hs hr hh ha⟩
    · exact ⟨_, _, _, _, .bad A t' us' L d _ _ b c s' h hd hs hr hh hc⟩
end Go.Proofs.YtfjpfkejajgkbaaDoor
