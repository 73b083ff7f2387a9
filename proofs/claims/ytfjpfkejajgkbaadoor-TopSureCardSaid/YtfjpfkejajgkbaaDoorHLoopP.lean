/- Arcs of edges, loops of steps, their room, in plain words. -/
import Derived.Test.YtfjpfkejajgkbaaDoorHFordP
import Derived.Test.YtfjpfkejajgkbaaDoorHG1
namespace Go.Proofs.YtfjpfkejajgkbaaDoor
open Go.RowKit
set_option linter.unusedVariables false
set_option linter.unusedSimpArgs false
def arcF (e : REdge) (i : Nat) : RArc := ⟨(i : Int) + 1, e.a, e.b, e.hi⟩
def arcB (e : REdge) (i : Nat) : RArc := ⟨-((i : Int) + 1), e.b, e.a, -e.lo⟩
/-- all arcs, from the i-th edge on. -/
def arcsGo : Nat → List REdge → List RArc
  | _, [] => []
  | i, e :: l => arcF e i :: arcB e i :: arcsGo (i + 1) l
def arcsL (l : List REdge) : List RArc := arcsGo 0 l
theorem arcsGo_app (i : Nat) (l m : List REdge) : arcsGo i (l ++ m) = arcsGo i l ++ arcsGo (i + l.length) m := by
  induction l generalizing i with
  | nil => simp [arcsGo]
  | cons e l ih =>
    simp only [List.cons_append, arcsGo, ih, List.length_cons]
    rw [show i + (l.length + 1) = i + 1 + l.length by omega]
theorem arcsL_take {l : List REdge} {k : Nat} {e : REdge} (h : l[k]? = some e) : arcsL (l.take (k + 1)) = arcsL (l.take k) ++ [arcF e k, arcB e k] := by
  have hk := (List.getElem?_eq_some_iff.1 h).1
  unfold arcsL
  rw [List.take_add_one, h, arcsGo_app]
  simp [arcsGo, Nat.min_eq_left (Nat.le_of_lt hk)]
theorem arcsGo_len (i : Nat) (l : List REdge) : (arcsGo i l).length = 2 * l.length := by
  induction l generalizing i with
  | nil => rfl
  | cons e l ih => simp only [arcsGo, List.length_cons, ih]; omega
theorem arcsL_len (l : List REdge) : (arcsL l).length = 2 * l.length := arcsGo_len 0 l
theorem arcsGo_mem {l : List REdge} : ∀ {i : Nat} {a : RArc}, a ∈ arcsGo i l → ∃ k e, l[k]? = some e ∧ (a = arcF e (i + k) ∨ a = arcB e (i + k)) := by
  induction l with
  | nil => intro i a h; simp [arcsGo] at h
  | cons e l ih =>
    intro i a h
    simp only [arcsGo, List.mem_cons] at h
    rcases h with rfl | rfl | h
    · exact ⟨0, e, rfl, .inl rfl⟩
    · exact ⟨0, e, rfl, .inr rfl⟩
    · obtain ⟨k, e', h1, h2⟩ := ih h
      exact ⟨k + 1, e', by simpa using h1, by rw [show i + (k + 1) = i + 1 + k by omega]; exact h2⟩
theorem arcsL_mem {l : List REdge} {a : RArc} (h : a ∈ arcsL l) : ∃ k e, l[k]? = some e ∧ (a = arcF e k ∨ a = arcB e k) := by
  have := arcsGo_mem h
  simpa using this
theorem arcsGo_mk {l : List REdge} : ∀ {i k : Nat} {e : REdge}, l[k]? = some e → arcF e (i + k) ∈ arcsGo i l ∧ arcB e (i + k) ∈ arcsGo i l := by
  induction l with
  | nil => intro i k e h; simp at h
  | cons x l ih =>
    intro i k e h
    cases k with
    | zero =>
      simp at h
      subst h
      simp [arcsGo]
    | succ k =>
      have := ih (i := i + 1) (k := k) (e := e) (by simpa using h)
      rw [show i + (k + 1) = i + 1 + k by omega]
      simp only [arcsGo, List.mem_cons]
      exact ⟨.inr (.inr this.1), .inr (.inr this.2)⟩
theorem arcsL_mk {l : List REdge} {k : Nat} {e : REdge} (h : l[k]? = some e) : arcF e k ∈ arcsL l ∧ arcB e k ∈ arcsL l := by
  have := arcsGo_mk (i := 0) h
  rw [Nat.zero_add] at this
  exact this
theorem arcs_ok {n : Nat} {l : List REdge} (hl : EdgesOk n l) : ArcsOk n (arcsL l) := by
  intro a ha
  obtain ⟨k, e, h1, h2⟩ := arcsL_mem ha
  have := hl e (List.mem_of_getElem? h1)
  unfold edgeB at this
  rcases h2 with rfl | rfl
  · simp only [arcF]; omega
  · simp only [arcB]; omega
theorem arcs_arc {n : Nat} {l : List REdge} (hl : EdgesOk n l) {a : RArc} (ha : a ∈ arcsL l) : Arc l a.fr.toNat a.to.toNat a.room := by
  obtain ⟨k, e, h1, h2⟩ := arcsL_mem ha
  have hm := List.mem_of_getElem? h1
  have := hl e hm
  unfold edgeB at this
  rcases h2 with rfl | rfl
  · exact ⟨e, hm, .inl ⟨by simp only [arcF]; omega, by simp only [arcF]; omega, rfl⟩⟩
  · exact ⟨e, hm, .inr ⟨by simp only [arcB]; omega, by simp only [arcB]; omega, rfl⟩⟩
theorem arc_arcs {n : Nat} {l : List REdge} (hl : EdgesOk n l) {x y : Nat} {w : Int} (h : Arc l x y w) : ∃ a ∈ arcsL l, a.fr = x ∧ a.to = y ∧ a.room = w := by
  obtain ⟨e, he, h⟩ := h
  obtain ⟨k, hk⟩ := List.getElem?_of_mem he
  have hm := arcsL_mk hk
  rcases h with ⟨h1, h2, h3⟩ | ⟨h1, h2, h3⟩
  · exact ⟨_, hm.1, h1, h2, h3.symm⟩
  · exact ⟨_, hm.2, h1, h2, h3.symm⟩
/-- numbers that fit all arcs: no way around is below nothing. -/
theorem flat_fit {n : Nat} {l : List REdge} (hl : EdgesOk n l) {R : Nat → Int} (h : ∀ a ∈ arcsL l, R a.to.toNat ≤ R a.fr.toNat + a.room) : ¬ Sunk (Arc l) n := by
  rintro ⟨v, r, c, _, hc, hw⟩
  have key : ∀ {a b r c}, Way (Arc l) a b r c → R b ≤ R a + c := by
    intro a b r c g
    induction g with
    | start => omega
    | go _ hw ih =>
      obtain ⟨a, ha, h1, h2, h3⟩ := arc_arcs hl hw
      have := h a ha
      rw [h1, h2, h3] at this
      simp only [Int.toNat_natCast] at this
      omega
  have := key hw
  omega
/-- the arc of a step. -/
def stepArc (l : List REdge) (s : Int) : Option RArc := if 0 < s then (l[(s - 1).toNat]?).map fun e => arcF e (s - 1).toNat else if s < 0 then (l[(-s - 1).toNat]?).map fun e => arcB e (-s - 1).toNat else none
theorem stepF (l : List REdge) (k : Nat) : stepArc l ((k : Int) + 1) = (l[k]?).map fun e => arcF e k := by
  unfold stepArc
  rw [if_pos (by omega), show ((k : Int) + 1 - 1).toNat = k by omega]
theorem stepB (l : List REdge) (k : Nat) : stepArc l (-((k : Int) + 1)) = (l[k]?).map fun e => arcB e k := by
  unfold stepArc
  rw [if_neg (by omega), if_pos (by omega), show (-(-((k : Int) + 1)) - 1).toNat = k by omega]
theorem step_of {l : List REdge} {a : RArc} (h : a ∈ arcsL l) : stepArc l a.step = some a := by
  obtain ⟨k, e, h1, h2⟩ := arcsL_mem h
  rcases h2 with rfl | rfl
  · show stepArc l ((k : Int) + 1) = _
    rw [stepF, h1]; rfl
  · show stepArc l (-((k : Int) + 1)) = _
    rw [stepB, h1]; rfl
theorem step_mem {l : List REdge} {s : Int} {a : RArc} (h : stepArc l s = some a) : a ∈ arcsL l ∧ a.step = s := by
  unfold stepArc at h
  split at h
  · obtain ⟨e, h1, rfl⟩ := Option.map_eq_some_iff.1 h
    exact ⟨(arcsL_mk h1).1, by simp only [arcF]; omega⟩
  · split at h
    · obtain ⟨e, h1, rfl⟩ := Option.map_eq_some_iff.1 h
      exact ⟨(arcsL_mk h1).2, by simp only [arcB]; omega⟩
    · cases h
theorem step_none {l : List REdge} {s : Int} : stepArc l s = none ↔ s = 0 ∨ (l.length : Int) < s ∨ s < -(l.length : Int) := by
  unfold stepArc
  split
  · rw [Option.map_eq_none_iff, List.getElem?_eq_none_iff]
    omega
  · split
    · rw [Option.map_eq_none_iff, List.getElem?_eq_none_iff]
      omega
    · simp; omega
def arcAt (l : List REdge) (s : Int) : RArc := (stepArc l s).getD ⟨0, 0, 0, 0⟩
def wayL (l : List REdge) (loop : List Int) : List RArc := loop.map (arcAt l)
def stepsB (l : List REdge) (loop : List Int) : Bool := loop.all fun s => (stepArc l s).isSome
def linkB (a b : Option RArc) : Bool := match a, b with
  | some a, some b => decide (b.fr = a.to)
  | _, _ => true
def aroundB (L : List RArc) : Bool := (List.range L.length).all fun i => linkB L[i]? L[(i + 1) % L.length]?
theorem aroundB_iff {L : List RArc} : aroundB L = true ↔ Around L := by
  unfold aroundB Around
  rw [List.all_eq_true]
  refine ⟨fun h i a b h1 h2 => ?_, fun h i hi => ?_⟩
  · have := h i (List.mem_range.2 (List.getElem?_eq_some_iff.1 h1).1)
    rw [h1, h2] at this
    simpa [linkB] using this
  · cases h1 : L[i]? with
    | none => cases L[(i + 1) % L.length]? <;> rfl
    | some a =>
      cases h2 : L[(i + 1) % L.length]? with
      | none => rfl
      | some b => simpa [linkB] using h i a b h1 h2
def roomC (l : List REdge) (loop : List Int) : Int := if loop.length = 0 then 5 else if 40 < loop.length then 4 else if stepsB l loop = true then (if aroundB (wayL l loop) = true then 0 else 3) else 1
def roomV (l : List REdge) (loop : List Int) : Int := if roomC l loop = 0 then ((wayL l loop).map RArc.room).sum else 0
theorem roomC_0 {l : List REdge} {loop : List Int} (h : roomC l loop = 0) : loop.length ≠ 0 ∧ loop.length ≤ 40 ∧ stepsB l loop = true ∧ Around (wayL l loop) := by
  unfold roomC at h
  split at h
  · omega
  · split at h
    · omega
    · split at h
      · split at h
        · exact ⟨by assumption, by omega, by assumption, aroundB_iff.1 (by assumption)⟩
        · omega
      · omega
theorem roomC_c (l : List REdge) (loop : List Int) : roomC l loop = 0 ∨ roomC l loop = 1 ∨ roomC l loop = 3 ∨ roomC l loop = 4 ∨ roomC l loop = 5 := by
  unfold roomC
  split
  · simp
  · split
    · simp
    · split
      · split <;> simp
      · simp
theorem around_way {n : Nat} {l : List REdge} (hl : EdgesOk n l) : ∀ (L : List RArc), (∀ a ∈ L, a ∈ arcsL l) → (∀ i a b, L[i]? = some a → L[i + 1]? = some b → b.fr = a.to) → ∀ a b, L[0]? = some a → L[L.length - 1]? = some b →
    Way (Arc l) a.fr.toNat b.to.toNat L.length (L.map RArc.room).sum := by
  intro L
  induction L with
  | nil => intro _ _ a b h; simp at h
  | cons x L ih =>
    intro h1 h2 a b ha hb
    simp at ha
    subst ha
    have one := Way.one (arcs_arc hl (h1 x (by simp)))
    cases L with
    | nil =>
      simp at hb
      subst hb
      simpa using one
    | cons y L =>
      have w2 := ih (fun a ha => h1 a (by simp [ha])) (fun i a b q1 q2 => h2 (i + 1) a b (by simpa using q1) (by simpa using q2)) y b rfl (by simpa using hb)
      have e := h2 0 x y rfl rfl
      rw [e] at w2
      exact (one.app w2).eq (by simp; omega) (by simp)
/-- a loop's room is what a way around says. -/
theorem room_way {n : Nat} {l : List REdge} (hl : EdgesOk n l) {loop : List Int} (h : roomC l loop = 0) : ∃ v, v < n ∧ Way (Arc l) v v loop.length (roomV l loop) := by
  obtain ⟨h1, h2, h3, h4⟩ := roomC_0 h
  have hv : roomV l loop = ((wayL l loop).map RArc.room).sum := by unfold roomV; rw [if_pos h]
  have hlen : (wayL l loop).length = loop.length := by simp [wayL]
  have hm : ∀ a ∈ wayL l loop, a ∈ arcsL l := fun a ha => by
    obtain ⟨s, hs, rfl⟩ := List.mem_map.1 ha
    have := List.all_eq_true.1 h3 s hs
    obtain ⟨x, hx⟩ := Option.isSome_iff_exists.1 this
    unfold arcAt
    rw [hx]
    exact (step_mem hx).1
  obtain ⟨a, ha⟩ : ∃ a, (wayL l loop)[0]? = some a := ⟨_, List.getElem?_eq_getElem (by omega)⟩
  obtain ⟨b, hb⟩ : ∃ b, (wayL l loop)[(wayL l loop).length - 1]? = some b := ⟨_, List.getElem?_eq_getElem (by omega)⟩
  have w := around_way hl _ hm (fun i x y q1 q2 => h4 i x y q1 (by
    have := (List.getElem?_eq_some_iff.1 q2).1
    rw [Nat.mod_eq_of_lt this]; exact q2)) a b ha hb
  have e := h4 _ b a hb (by rw [show (wayL l loop).length - 1 + 1 = (wayL l loop).length by omega, Nat.mod_self]; exact ha)
  rw [← e, ← hv, hlen] at w
  have hk := arcs_ok hl a (hm a (List.mem_of_getElem? ha))
  exact ⟨a.fr.toNat, by omega, w⟩
theorem room_sunk {n : Nat} {l : List REdge} (hl : EdgesOk n l) {loop : List Int} (h : roomC l loop = 0) (hr : roomV l loop < 0) : Sunk (Arc l) n := by
  obtain ⟨v, hv, hw⟩ := room_way hl h
  exact ⟨v, _, _, hv, hr, hw⟩
theorem way_steps {l : List REdge} {L : List RArc} (h : ∀ a ∈ L, a ∈ arcsL l) : wayL l (L.map RArc.step) = L := by
  unfold wayL
  rw [List.map_map]
  conv => rhs; rw [← List.map_id L]
  apply List.map_congr_left
  intro a ha
  show arcAt l a.step = a
  unfold arcAt
  rw [step_of (h a ha)]
  rfl
/-- the loop that is found has its room. -/
theorem ring_room {l : List REdge} {L : List RArc} (h : ∀ a ∈ L, a ∈ arcsL l) (ha : Around L) (h0 : L.length ≠ 0) (h40 : L.length ≤ 40) : roomC l (L.map RArc.step) = 0 ∧ roomV l (L.map RArc.step) = (L.map RArc.room).sum := by
  have h3 : stepsB l (L.map RArc.step) = true := by
    unfold stepsB
    rw [List.all_map, List.all_eq_true]
    intro a ha
    show (stepArc l a.step).isSome = true
    rw [step_of (h a ha)]
    rfl
  have h0' : roomC l (L.map RArc.step) = 0 := by
    unfold roomC
    rw [List.length_map, if_neg h0, if_neg (by omega), if_pos h3, way_steps h, if_pos (aroundB_iff.2 ha)]
  refine ⟨h0', ?_⟩
  unfold roomV
  rw [if_pos h0', way_steps h]
/-- what finding a loop answers. -/
def FindS (n : Nat) (l : List REdge) (c : Int) (loop : List Int) : Prop :=
  (c = 5 ∧ ¬ Sunk (Arc l) n ∧ loop = []) ∨ (c = 0 ∧ Sunk (Arc l) n ∧ 1 ≤ loop.length ∧ loop.length ≤ n ∧ roomC l loop = 0 ∧ roomV l loop < 0)
theorem find_ring {n : Nat} {l : List REdge} (hl : EdgesOk n l) (h6 : n ≤ 6) {r k S : Nat} {R : Nat → Int} {B : Nat → RArc} {U : Nat → Nat} {last : Int} (h : Ford n (arcsL l) r k S R B U last) {y p : Nat} (hp : 1 ≤ p) (hpn : p ≤ n) (hy : ∀ j, itr (frB B) j y < n ∧ 1 ≤ U (itr (frB B) j y)) (hr : itr (frB B) p y = y) :
    FindS n l 0 ((ringL B y p).map RArc.step) := by
  obtain ⟨h1, h2, h3⟩ := h.ringAll (arcs_ok hl) hp hy hr
  have hlen := ringL_len B y p
  obtain ⟨q1, q2⟩ := ring_room h1 h2 (by omega) (by omega)
  have q3 : roomV l ((ringL B y p).map RArc.step) < 0 := by rw [q2]; exact h3
  exact .inr ⟨rfl, room_sunk hl q1 q3, by rw [List.length_map]; omega, by rw [List.length_map]; omega, q1, q3⟩
/-- where the arc ahead of the k-th one ends. -/
def prevTo (L : List RArc) (k : Nat) : Int := ((L[if k = 0 then L.length - 1 else k - 1]?).getD ⟨0, 0, 0, 0⟩).to
theorem around_iff {L : List RArc} : Around L ↔ ∀ j b, L[j]? = some b → b.fr = prevTo L j := by
  refine ⟨fun h j b hb => ?_, fun h i a b ha hb => ?_⟩
  · have hj := (List.getElem?_eq_some_iff.1 hb).1
    unfold prevTo
    by_cases e : j = 0
    · subst e
      obtain ⟨a, ha⟩ : ∃ a, L[L.length - 1]? = some a := ⟨_, List.getElem?_eq_getElem (by omega)⟩
      rw [if_pos rfl, ha]
      exact h _ a b ha (by rw [show L.length - 1 + 1 = L.length by omega, Nat.mod_self]; exact hb)
    · obtain ⟨a, ha⟩ : ∃ a, L[j - 1]? = some a := ⟨_, List.getElem?_eq_getElem (by omega)⟩
      rw [if_neg e, ha]
      exact h _ a b ha (by rw [show j - 1 + 1 = j by omega, Nat.mod_eq_of_lt hj]; exact hb)
  · have hi := (List.getElem?_eq_some_iff.1 ha).1
    have := h _ b hb
    rw [this]
    unfold prevTo
    by_cases e : i + 1 = L.length
    · rw [e, Nat.mod_self, if_pos rfl, show L.length - 1 = i by omega, ha]; rfl
    · rw [Nat.mod_eq_of_lt (by omega), if_neg (by omega), show i + 1 - 1 = i by omega, ha]; rfl
theorem prevTo_succ {L : List RArc} {k : Nat} {a : RArc} (h : L[k]? = some a) : prevTo L (k + 1) = a.to := by
  unfold prevTo
  rw [if_neg (by omega), show k + 1 - 1 = k by omega, h]
  rfl
def roomE (N : Int) (l : List REdge) (loop : List Int) : Int := if edgesC N l = 0 then roomC l loop else edgesC N l
def roomX (N : Int) (l : List REdge) (loop : List Int) : Int := if edgesC N l = 0 then roomV l loop else 0
def sumR (L : List RArc) : Int := (L.map RArc.room).sum
theorem sumR_snoc (L : List RArc) (a : RArc) : sumR (L ++ [a]) = sumR L + a.room := by simp [sumR]
theorem sumR_bd {n : Nat} {L : List RArc} (h : ArcsOk n L) : -(1000000000000 * (L.length : Int)) ≤ sumR L ∧ sumR L ≤ 1000000000000 * (L.length : Int) := by
  induction L with
  | nil => simp [sumR]
  | cons a L ih =>
    have h1 := ih (fun b hb => h b (by simp [hb]))
    have h2 := h a (by simp)
    have e : sumR (a :: L) = a.room + sumR L := by simp [sumR]
    rw [e, List.length_cons]
    omega
theorem wayL_snoc {l : List REdge} {loop : List Int} {k : Nat} {s : Int} {a : RArc} (h : loop[k]? = some s) (ha : stepArc l s = some a) : wayL l (loop.take (k + 1)) = wayL l (loop.take k) ++ [a] := by
  unfold wayL
  rw [List.take_add_one, h, List.map_append]
  congr 1
  show [arcAt l s] = [a]
  unfold arcAt
  rw [ha]; rfl
theorem wayL_ok {n : Nat} {l : List REdge} (hl : EdgesOk n l) {loop : List Int} (h : ∀ s ∈ loop, (stepArc l s).isSome = true) : (∀ a ∈ wayL l loop, a ∈ arcsL l) ∧ ArcsOk n (wayL l loop) := by
  have h1 : ∀ a ∈ wayL l loop, a ∈ arcsL l := fun a ha => by
    obtain ⟨s, hs, rfl⟩ := List.mem_map.1 ha
    obtain ⟨x, hx⟩ := Option.isSome_iff_exists.1 (h s hs)
    unfold arcAt
    rw [hx]
    exact (step_mem hx).1
  exact ⟨h1, fun a ha => arcs_ok hl a (h1 a ha)⟩
theorem room_bad {l : List REdge} {loop : List Int} {k : Nat} {s : Int} (h0 : loop.length ≠ 0) (h40 : loop.length ≤ 40) (h : loop[k]? = some s) (hs : stepArc l s = none) : roomC l loop = 1 ∧ roomV l loop = 0 := by
  have hb : stepsB l loop = false := by
    cases e : stepsB l loop
    · rfl
    · have := List.all_eq_true.1 e s (List.mem_of_getElem? h)
      rw [hs] at this; cases this
  have h1 : roomC l loop = 1 := by
    unfold roomC
    rw [if_neg h0, if_neg (by omega), if_neg (by rw [hb]; simp)]
  exact ⟨h1, by unfold roomV; rw [if_neg (by omega)]⟩
theorem room_open {l : List REdge} {loop : List Int} (h0 : loop.length ≠ 0) (h40 : loop.length ≤ 40) (hs : ∀ s ∈ loop, (stepArc l s).isSome = true) {k : Nat} {b : RArc} (hb : (wayL l loop)[k]? = some b) (hne : b.fr ≠ prevTo (wayL l loop) k) : roomC l loop = 3 ∧ roomV l loop = 0 := by
  have h1 : roomC l loop = 3 := by
    unfold roomC
    rw [if_neg h0, if_neg (by omega), if_pos (show stepsB l loop = true from List.all_eq_true.2 hs), if_neg (fun h => hne (around_iff.1 (aroundB_iff.1 h) k b hb))]
  exact ⟨h1, by unfold roomV; rw [if_neg (by omega)]⟩
theorem room_shut {l : List REdge} {loop : List Int} (h0 : loop.length ≠ 0) (h40 : loop.length ≤ 40) (hs : ∀ s ∈ loop, (stepArc l s).isSome = true) (h : ∀ j, j < loop.length → ∀ b, (wayL l loop)[j]? = some b → b.fr = prevTo (wayL l loop) j) : roomC l loop = 0 ∧ roomV l loop = sumR (wayL l loop) := by
  have h1 : roomC l loop = 0 := by
    unfold roomC
    rw [if_neg h0, if_neg (by omega), if_pos (show stepsB l loop = true from List.all_eq_true.2 hs), if_pos (aroundB_iff.2 (around_iff.2 (fun j b hb => h j (by
      have := (List.getElem?_eq_some_iff.1 hb).1
      simpa [wayL] using this) b hb)))]
  exact ⟨h1, by unfold roomV; rw [if_pos h1]; rfl⟩
theorem room_not {l : List REdge} {loop : List Int} (h0 : loop.length ≠ 0) (h40 : loop.length ≤ 40) (hs : ∀ s ∈ loop, (stepArc l s).isSome = true) (hne : ¬ Around (wayL l loop)) : roomC l loop = 3 ∧ roomV l loop = 0 := by
  have h1 : roomC l loop = 3 := by
    unfold roomC
    rw [if_neg h0, if_neg (by omega), if_pos (show stepsB l loop = true from List.all_eq_true.2 hs), if_neg (fun h => hne (aroundB_iff.1 h))]
  exact ⟨h1, by unfold roomV; rw [if_neg (by omega)]⟩
theorem room_yes {l : List REdge} {loop : List Int} (h0 : loop.length ≠ 0) (h40 : loop.length ≤ 40) (hs : ∀ s ∈ loop, (stepArc l s).isSome = true) (h : Around (wayL l loop)) : roomC l loop = 0 ∧ roomV l loop = sumR (wayL l loop) := by
  have h1 : roomC l loop = 0 := by
    unfold roomC
    rw [if_neg h0, if_neg (by omega), if_pos (show stepsB l loop = true from List.all_eq_true.2 hs), if_pos (aroundB_iff.2 h)]
  exact ⟨h1, by unfold roomV; rw [if_pos h1]; rfl⟩
theorem wayL_at {l : List REdge} {loop : List Int} {k : Nat} {s : Int} {a : RArc} (h : loop[k]? = some s) (ha : stepArc l s = some a) : (wayL l loop)[k]? = some a := by
  unfold wayL
  rw [List.getElem?_map, h]
  show some (arcAt l s) = some a
  unfold arcAt
  rw [ha]; rfl
end Go.Proofs.YtfjpfkejajgkbaaDoor
