/- A net of two, an ask and its answer: what it tells. No program stands here. -/
import Derived.Test.YtmficdfihogffaaHTruthE
namespace Go.Proofs.Ytmficdfihogffaa
open Go.RowKit
set_option linter.unusedVariables false
set_option linter.unusedSimpArgs false
theorem ex_new : newC [0, 100] [0, 0] 0 = 0 := by decide
def exL : List REdge := [⟨0, 1, 98, 104⟩]
theorem ex_arc : ∀ x y w, Arc exL x y w → (x = 0 ∧ y = 1 ∧ w = 104) ∨ (x = 1 ∧ y = 0 ∧ w = -98) := by
  rintro x y w ⟨e, he, hx⟩
  simp [exL] at he
  subst he
  rcases hx with ⟨h1, h2, h3⟩ | ⟨h1, h2, h3⟩
  · left; simp only [] at h1 h2 h3; omega
  · right; simp only [] at h1 h2 h3; omega
theorem ex_hi : ∀ {r c}, Way (Arc exL) 0 1 r c → 104 ≤ c := by
  intro r c h
  have := way_pot (p := fun i => if i = 1 then 104 else 0) (fun x y w hw => by rcases ex_arc x y w hw with ⟨rfl, rfl, rfl⟩ | ⟨rfl, rfl, rfl⟩ <;> simp) h
  simpa using this
theorem ex_lo : ∀ {r c}, Way (Arc exL) 1 0 r c → -98 ≤ c := by
  intro r c h
  have := way_pot (p := fun i => if i = 1 then 98 else 0) (fun x y w hw => by rcases ex_arc x y w hw with ⟨rfl, rfl, rfl⟩ | ⟨rfl, rfl, rfl⟩ <;> simp) h
  simpa using this
theorem ex_go : Way (Arc exL) 0 1 1 104 := .one ⟨_, List.mem_singleton.2 rfl, .inl ⟨rfl, rfl, rfl⟩⟩
theorem ex_back : Way (Arc exL) 1 0 1 (-98) := .one ⟨_, List.mem_singleton.2 rfl, .inr ⟨rfl, rfl, rfl⟩⟩
def exS0 (i : Nat) : NSt := NSt.start 2 i 0
def exS1 : Nat → NSt := updS exS0 1 ((exS0 1).heard 100)
def exS2 : Nat → NSt := updS exS1 0 ((exS1 0).learn 1 0 100 102)
def exU1 : List RLetter := [⟨0, 1, false, 0, 0, 0⟩]
def exU2 : List RLetter := [⟨1, 0, true, 0, 100, 100⟩]
theorem ex_ask : NAct 2 [0, 100] [0, 0] 0 [] exS0 ⟨2, 0, 1⟩ 0 0 exU1 exS0 :=
  .quiet _ _ _ _ (by
    have h := WAct.ask (n := 2) (ss := [0, 100]) (rs := [0, 0]) (t := 0) (us := []) 0 1 0 0 rfl rfl (by omega) (by omega) (by decide)
    exact h)
theorem ex_one : NAct 2 [0, 100] [0, 0] 0 exU1 exS0 ⟨3, 0, 0⟩ 0 0 exU2 exS1 := by
  have hw : WAct 2 [0, 100] [0, 0] 0 exU1 ⟨3, ((0 : Nat) : Int), 0⟩ 0 (some ⟨0, 1, false, 0, 0, 0⟩) 0 (exU1.eraseIdx 0) := WAct.deliver 0 _ 0 rfl
  have hh : Hears (exS0 1) ⟨0, 1, false, 0, 0, 0⟩ (readV 100 0 0) false 0 ((exS0 1).heard (readV 100 0 0)) := .ask (by decide) rfl (by decide) (by decide) (by decide) rfl
  have ha : WAns 2 [0, 100] [0, 0] 0 [] ⟨((0 : Nat) : Int), ((1 : Nat) : Int), false, 0, 0, 0⟩ 0 ([] ++ [⟨((1 : Nat) : Int), ((0 : Nat) : Int), true, 0, readV 100 0 0, readV 100 0 0⟩]) := WAns.ok 0 1 100 0 0 0 0 rfl rfl (by omega) (by decide)
  exact NAct.asked _ 0 [] exU2 ⟨0, 1, false, 0, 0, 0⟩ 1 100 0 false 0 _ hw rfl rfl rfl hh rfl ha
theorem ex_two : NAct 2 [0, 100] [0, 0] 0 exU2 exS1 ⟨3, 0, 0⟩ 0 0 [] exS2 := by
  have hw : WAct 2 [0, 100] [0, 0] 0 exU2 ⟨3, ((0 : Nat) : Int), 0⟩ 0 (some ⟨1, 0, true, 0, 100, 100⟩) 0 (exU2.eraseIdx 0) := WAct.deliver 0 _ 0 rfl
  have ho : offL ⟨1, 0, true, 0, 100, 100⟩ (readV 0 0 0) 0 = ⟨100, 102, 0⟩ := rfl
  have hh := Hears.first (s := exS1 0) (L := ⟨1, 0, true, 0, 100, 100⟩) (here := readV 0 0 0) (by decide) rfl (by decide) (by decide) (by decide) rfl (by show (offL ⟨1, 0, true, 0, 100, 100⟩ (readV 0 0 0) 0).c = 0; rw [ho]) rfl
  exact NAct.told _ 0 [] ⟨1, 0, true, 0, 100, 100⟩ 0 0 0 true _ hw rfl rfl rfl hh rfl
theorem ex_netL : netL (hereAt [0, 100] [0, 0] 0) exS2 2 = exL := by rfl
theorem ex_netC : netC (hereAt [0, 100] [0, 0] 0) exS2 2 = 0 := by decide
theorem ex_true : TrueN 2 [0, 100] [0, 0] 0 0 [] exS2 :=
  (nact_true (nact_true (nact_true (new_true ex_new rfl) rfl ex_ask).1 rfl ex_one).1 rfl ex_two).1
theorem ex_off {x : RSpan} {c : Int} (h : OffS 2 (hereAt [0, 100] [0, 0] 0) exS2 (0 : Int) (1 : Int) x c) : c = 0 ∧ x = ⟨98, 104⟩ := by
  have hO := ex_true.offset (by omega) (a := 0) (b := 1) (by omega) (by omega) h
  rcases h with ⟨h0, _⟩ | ⟨_, ⟨h0, _⟩ | ⟨_, hB⟩⟩
  · exact absurd h0 (by decide)
  · exact absurd ex_netC h0
  · rw [ex_netL] at hB
    have hc : c = 0 := by
      rcases hO with rfl | ⟨h1, _⟩
      · exfalso
        rcases hB with ⟨_, g, _⟩ | ⟨_, _, g, _⟩ | ⟨_, _, ⟨_, g, _⟩ | ⟨_, D, hD, ⟨_, g, _⟩ | ⟨_, ⟨g, _⟩ | ⟨_, g, _⟩⟩⟩⟩
        · exact absurd g (by decide)
        · omega
        · omega
        · omega
        · rcases hD 0 1 (by decide) (by decide) with ⟨_, q⟩ | ⟨q, _⟩
          · exact q _ _ ex_go
          · exact g (of_decide_eq_true q)
        · omega
      · exact h1
    subst hc
    obtain ⟨n, a, b, e1, e2, e3, hok⟩ := bet_ok hB
    obtain rfl : a = 0 := by omega
    obtain rfl : b = 1 := by omega
    have h1 := hok.hi.one ⟨⟨_, ex_go⟩, fun _ _ g => ex_hi g⟩
    have h2 := hok.lo.one ⟨⟨_, ex_back⟩, fun _ _ g => ex_lo g⟩
    refine ⟨rfl, ?_⟩
    obtain ⟨l, hh⟩ := x
    simp only [] at h1 h2
    subst h1
    have : l = 98 := by omega
    subst this
    rfl
theorem pair_ints {w : World} {g : Nat} {T : TypeId} {a b : Int} (h : Blk w g T #[.int .i64 a, .int .i64 b]) (ha : i64B a) (hb : i64B b) : IsInts w (some ⟨g, 0, none⟩) 2 2 [a, b] := by
  refine ⟨rfl, by omega, by unfold maxLen; omega, ?_, fun _ => ⟨g, 0, rfl, h.lt, fun i z hz j u hj => ?_⟩⟩
  · intro z hz
    simp at hz
    rcases hz with rfl | rfl <;> assumption
  · have hj0 : j = 0 := by
      have := (List.getElem?_eq_some_iff.1 hj).1
      simp [intCells] at this; omega
    subst hj0
    simp [intCells] at hj
    subst hj
    have hi : i < 2 := (List.getElem?_eq_some_iff.1 hz).1
    have hc : i = 0 ∨ i = 1 := by omega
    rw [h.cell]
    rcases hc with rfl | rfl <;> simp at hz <;> subst hz <;> rfl
/-- what a net may turn lies no lower than its world. -/
theorem NetAt.done {w0 w w' : World} {a : NAd} {ss rs : List Int} {p t : Int} {uv : Value} {us : List RLetter} {K : Nat} {S : Nat → NSt} (h : NetAt w a ss rs p t uv us K S) (hb : Below w0.heap.size w0 w) (hg : w0.heap.size ≤ a.g) (hK : Kept (NetMine a uv) w w') : Below w0.heap.size w0 w' := by
  have hgB := h.g_ne
  refine hb.trans (hK.toBelow hb.size (fun k e => ?_))
  rcases e with rfl | e | ⟨i, hi, e⟩
  · exact hg
  · have := (h.W.low k e).1; omega
  · have := h.ad.Bg i hi
    rcases e with rfl | rfl <;> omega
theorem shows_len (ss rs : List Int) (t : Int) (n : Nat) : (shows ss rs t n).length = n := by simp [shows]
theorem shows_succ (ss rs : List Int) (t : Int) (n : Nat) : shows ss rs t (n + 1) = shows ss rs t n ++ [hereAt ss rs t n] := by unfold shows; rw [List.range_succ, List.map_append]; rfl
theorem TrueN.shows_ok {n : Nat} {ss rs : List Int} {p t : Int} {us : List RLetter} {S : Nat → NSt} (h : TrueN n ss rs p t us S) : ∀ z ∈ shows ss rs t n, 0 ≤ z ∧ z ≤ 1002000000 := by
  intro z hz
  obtain ⟨i, hi, rfl⟩ := List.mem_map.1 hz
  exact h.C.bd (List.mem_range.1 hi) h.t0 h.t1
end Go.Proofs.Ytmficdfihogffaa
