/- As Bellman and Ford did: what is known after so many rounds along all arcs, and the way back. No program stands here. -/
import Derived.Test.YtfjpfkejajgkbaaDoorHG1
namespace Go.Proofs.YtfjpfkejajgkbaaDoor
open Go.RowKit
set_option linter.unusedVariables false
set_option linter.unusedSimpArgs false
structure RArc where
  step : Int
  fr : Int
  to : Int
  room : Int
def RArc.cells (a : RArc) : List Value := [.int .i64 a.step, .int .i64 a.fr, .int .i64 a.to, .int .i64 a.room]
def RArc.ok (a : RArc) : Prop := i64B a.step ∧ i64B a.fr ∧ i64B a.to ∧ i64B a.room
def upF {α : Type} (R : Nat → α) (b : Nat) (v : α) : Nat → α := fun j => if j = b then v else R j
theorem upF_at {α : Type} (R : Nat → α) (b : Nat) (v : α) : upF R b v b = v := by simp [upF]
theorem upF_ne {α : Type} (R : Nat → α) {b j : Nat} (v : α) (h : j ≠ b) : upF R b v j = R j := by simp [upF, h]
def ArcsOk (n : Nat) (L : List RArc) : Prop := ∀ a ∈ L, 0 ≤ a.fr ∧ a.fr < n ∧ 0 ≤ a.to ∧ a.to < n ∧ a.fr ≠ a.to ∧ -1000000000000 ≤ a.room ∧ a.room ≤ 1000000000000
/-- by which arc a node came last. -/
def ByR (B : Nat → RArc) (U : Nat → Nat) (x y : Nat) (w : Int) : Prop := 1 ≤ U y ∧ (B y).fr = x ∧ (B y).room = w
/-- round r, k arcs tried; R: the numbers; B: the arcs; U: in which round a node came last; S: how many arcs were tried. -/
structure Ford (n : Nat) (L : List RArc) (r k S : Nat) (R : Nat → Int) (B : Nat → RArc) (U : Nat → Nat) (last : Int) : Prop where
  bd : ∀ v, v < n → -(1000000000000 * (S : Int)) ≤ R v ∧ R v ≤ 0
  by_ : ∀ v, v < n → 1 ≤ U v → B v ∈ L ∧ (B v).to = v ∧ R (B v).fr.toNat + (B v).room ≤ R v ∧ U v ≤ U (B v).fr.toNat + 1
  le : ∀ v, v < n → U v ≤ r
  cyc : ∀ v j c, 0 < j → Way (ByR B U) v v j c → c < 0
  old : 2 ≤ r → ∀ a ∈ L, U a.fr.toNat + 1 < r → R a.to.toNat ≤ R a.fr.toNat + a.room
  new : ∀ a ∈ L.take k, U a.fr.toNat < r → R a.to.toNat ≤ R a.fr.toNat + a.room
  last : (last = -1 ∧ ∀ v, v < n → U v < r) ∨ (∃ v : Nat, v < n ∧ last = v ∧ U v = r)
theorem Ford.init (n : Nat) (L : List RArc) (R : Nat → Int) (B : Nat → RArc) (h : ∀ v, v < n → R v = 0) : Ford n L 1 0 0 R B (fun _ => 0) (-1) :=
  ⟨fun v hv => by rw [h v hv]; simp, fun v hv hu => by simp at hu, fun v hv => by simp, fun v j c hj hw => by
    cases hw with
    | start => omega
    | go _ ha => exact absurd ha.1 (by simp), fun h2 => by omega, fun a ha => by simp at ha, .inl ⟨rfl, fun v _ => by simp⟩⟩
theorem Ford.round {n : Nat} {L : List RArc} {r S : Nat} {R : Nat → Int} {B : Nat → RArc} {U : Nat → Nat} {last : Int} (h : Ford n L r L.length S R B U last) : Ford n L (r + 1) 0 S R B U (-1) :=
  ⟨h.bd, h.by_, fun v hv => by have := h.le v hv; omega, h.cyc, fun _ a ha hu => h.new a (by rw [List.take_length]; exact ha) (by omega), fun a ha => by simp at ha, .inl ⟨rfl, fun v hv => by have := h.le v hv; omega⟩⟩
theorem take_mem {α : Type} {l : List α} {k : Nat} {e a : α} (he : l[k]? = some e) (h : a ∈ l.take (k + 1)) : a ∈ l.take k ∨ a = e := by
  rw [List.take_add_one, he] at h
  rcases List.mem_append.1 h with g | g
  · exact .inl g
  · right; simpa using g
/-- an arc that gives nothing. -/
theorem Ford.skip {n : Nat} {L : List RArc} {r k S : Nat} {R : Nat → Int} {B : Nat → RArc} {U : Nat → Nat} {last : Int} (h : Ford n L r k S R B U last) {a : RArc} (ha : L[k]? = some a) (hle : R a.to.toNat ≤ R a.fr.toNat + a.room) :
    Ford n L r (k + 1) (S + 1) R B U last :=
  ⟨fun v hv => by have := h.bd v hv; omega, h.by_, h.le, h.cyc, h.old, fun b hb hu => by
    rcases take_mem ha hb with g | g
    · exact h.new b g hu
    · subst g; exact hle, h.last⟩
theorem by_way {n : Nat} {L : List RArc} {r k S : Nat} {R : Nat → Int} {B : Nat → RArc} {U : Nat → Nat} {last : Int} (hl : ArcsOk n L) (h : Ford n L r k S R B U last) {a b j : Nat} {c : Int} (ha : a < n) (g : Way (ByR B U) a b j c) : b < n → R a + c ≤ R b := by
  intro hb
  have key : ∀ {b j c}, Way (ByR B U) a b j c → b < n → R a + c ≤ R b := by
    intro b j c g
    induction g with
    | start => intro _; omega
    | @go x y j c w g hw ih =>
      intro hy
      obtain ⟨h1, h2, h3⟩ := hw
      obtain ⟨q1, q2, q3, q4⟩ := h.by_ y hy h1
      have hk := hl _ q1
      have hx : (B y).fr.toNat = x := by omega
      have := ih (by omega)
      rw [hx] at q3
      omega
  exact key g hb
/-- a way of the new arcs goes along old ones alone, or over the node that came. -/
theorem by_part {B B' : Nat → RArc} {U U' : Nat → Nat} {v : Nat} (hB : ∀ y, y ≠ v → B' y = B y ∧ U' y = U y) {a b j : Nat} {c : Int} (g : Way (ByR B' U') a b j c) :
    Way (ByR B U) a b j c ∨ ∃ i k c1 c2, 0 < i ∧ i + k = j ∧ c1 + c2 = c ∧ Way (ByR B' U') a v i c1 ∧ Way (ByR B U) v b k c2 ∧ Way (ByR B' U') v b k c2 := by
  induction g with
  | start => exact .inl .start
  | @go x y j c w g hw ih =>
    by_cases e : y = v
    · subst e
      exact .inr ⟨j + 1, 0, c + w, 0, by omega, by omega, by omega, .go g hw, .start, .start⟩
    · have hw' : ByR B U x y w := by
        obtain ⟨h1, h2, h3⟩ := hw
        rw [(hB y e).2] at h1
        rw [(hB y e).1] at h2 h3
        exact ⟨h1, h2, h3⟩
      rcases ih with ih | ⟨i, k, c1, c2, h1, h2, h3, h4, h5, h6⟩
      · exact .inl (.go ih hw')
      · exact .inr ⟨i, k + 1, c1, c2 + w, h1, by omega, by omega, h4, .go h5 hw', .go h6 hw⟩
/-- an arc that gives less. -/
theorem Ford.take {n : Nat} {L : List RArc} {r k S : Nat} {R : Nat → Int} {B : Nat → RArc} {U : Nat → Nat} {last : Int} (hl : ArcsOk n L) (h : Ford n L r k S R B U last) (hr : 1 ≤ r) {a : RArc} (ha : L[k]? = some a) (hlt : R a.fr.toNat + a.room < R a.to.toNat) :
    Ford n L r (k + 1) (S + 1) (upF R a.to.toNat (R a.fr.toNat + a.room)) (upF B a.to.toNat a) (upF U a.to.toNat r) a.to := by
  have hm := List.mem_of_getElem? ha
  have hk := hl a hm
  have ht : a.to.toNat < n := by omega
  have hf : a.fr.toNat < n := by omega
  have hne : a.fr.toNat ≠ a.to.toNat := by omega
  have bf := h.bd _ hf
  have bt := h.bd _ ht
  have mo : ∀ v, upF R a.to.toNat (R a.fr.toNat + a.room) v ≤ R v := fun v => by
    unfold upF
    split
    · rename_i e; rw [e]; omega
    · omega
  have hUf : r ≤ U a.fr.toNat + 1 := by
    rcases Nat.lt_or_ge (U a.fr.toNat + 1) r with q | q
    · have := h.old (by omega) a hm q
      omega
    · exact q
  have hmoU : ∀ v, v < n → U v ≤ upF U a.to.toNat r v := fun v hv => by
    unfold upF
    split
    · exact h.le v hv
    · omega
  have hB : ∀ y, y ≠ a.to.toNat → upF B a.to.toNat a y = B y ∧ upF U a.to.toNat r y = U y := fun y hy => ⟨upF_ne _ _ hy, upF_ne _ _ hy⟩
  -- a cycle over the node that came
  have own : ∀ j c, 0 < j → Way (ByR (upF B a.to.toNat a) (upF U a.to.toNat r)) a.to.toNat a.to.toNat j c → c < 0 := by
    intro j
    induction j using Nat.strongRecOn with
    | ind j ih =>
      intro c hj g
      cases g with
      | start => omega
      | @go x _ j' c' w g hw =>
        obtain ⟨_, h2, h3⟩ := hw
        rw [upF_at] at h2 h3
        obtain rfl : x = a.fr.toNat := by omega
        rcases by_part hB g with q | ⟨i, m, c1, c2, q1, q2, q3, q4, q5, _⟩
        · have := by_way hl h ht q hf
          omega
        · have e1 := ih i (by omega) c1 q1 q4
          have := by_way hl h ht q5 hf
          omega
  refine ⟨fun v hv => ?_, fun v hv hu => ?_, fun v hv => ?_, fun v j c hj g => ?_, fun h2 b hb hu => ?_, fun b hb hu => ?_, .inr ⟨a.to.toNat, ht, by omega, upF_at _ _ _⟩⟩
  · unfold upF
    split
    · omega
    · have := h.bd v hv; omega
  · by_cases e : v = a.to.toNat
    · subst e
      rw [upF_at, upF_at, upF_at, upF_ne _ _ hne, upF_ne _ _ hne]
      exact ⟨hm, by omega, Int.le_refl _, hUf⟩
    · rw [upF_ne _ _ e, upF_ne _ _ e, upF_ne _ _ e]
      rw [upF_ne _ _ e] at hu
      obtain ⟨q1, q2, q3, q4⟩ := h.by_ v hv hu
      have hk' := hl _ q1
      have := mo (B v).fr.toNat
      have := hmoU (B v).fr.toNat (by omega)
      exact ⟨q1, q2, by omega, by omega⟩
  · unfold upF
    split
    · exact Nat.le_refl _
    · exact h.le v hv
  · rcases by_part hB g with q | ⟨i, m, c1, c2, q1, q2, q3, q4, q5, q6⟩
    · exact h.cyc v j c hj q
    · have := own (m + i) (c2 + c1) (by omega) (q6.app q4)
      omega
  · have := mo b.to.toNat
    by_cases e : b.fr.toNat = a.to.toNat
    · rw [e, upF_at] at hu; omega
    · rw [upF_ne _ _ e] at hu
      have := h.old h2 b hb hu
      rw [upF_ne R _ e]
      omega
  · have := mo b.to.toNat
    by_cases e : b.fr.toNat = a.to.toNat
    · rw [e, upF_at] at hu; omega
    · rw [upF_ne _ _ e] at hu
      rcases take_mem ha hb with g | g
      · have := h.new b g hu
        rw [upF_ne R _ e]
        omega
      · subst g
        rw [upF_at, upF_ne _ _ e]
        exact Int.le_refl _
/-- the end: nothing came in the last round: the numbers fit all arcs. -/
theorem Ford.flat {n : Nat} {L : List RArc} {S : Nat} {R : Nat → Int} {B : Nat → RArc} {U : Nat → Nat} (hl : ArcsOk n L) (h : Ford n L n L.length S R B U (-1)) : ∀ a ∈ L, R a.to.toNat ≤ R a.fr.toNat + a.room := by
  intro a ha
  have hk := hl a ha
  rcases h.last with ⟨_, h1⟩ | ⟨v, _, h2, _⟩
  · exact h.new a (by rw [List.take_length]; exact ha) (h1 _ (by omega))
  · omega
def itr (f : Nat → Nat) : Nat → Nat → Nat
  | 0, v => v
  | k + 1, v => f (itr f k v)
theorem itr_add (f : Nat → Nat) (a b v : Nat) : itr f (a + b) v = itr f a (itr f b v) := by
  induction a with
  | zero => rw [Nat.zero_add]; rfl
  | succ a ih => rw [show a + 1 + b = a + b + 1 by omega]; show f _ = f _; rw [ih]
def frB (B : Nat → RArc) (v : Nat) : Nat := (B v).fr.toNat
theorem Ford.back {n : Nat} {L : List RArc} {r k S : Nat} {R : Nat → Int} {B : Nat → RArc} {U : Nat → Nat} {last : Int} (hl : ArcsOk n L) (h : Ford n L r k S R B U last) {v : Nat} (hv : v < n) (hU : U v = n) :
    ∀ j, j ≤ n → itr (frB B) j v < n ∧ n ≤ U (itr (frB B) j v) + j := by
  intro j
  induction j with
  | zero => intro _; exact ⟨hv, by show n ≤ U v + 0; omega⟩
  | succ j ih =>
    intro hj
    obtain ⟨h1, h2⟩ := ih (by omega)
    obtain ⟨q1, q2, q3, q4⟩ := h.by_ _ h1 (by omega)
    have hk := hl _ q1
    show frB B (itr (frB B) j v) < n ∧ n ≤ U (frB B (itr (frB B) j v)) + (j + 1)
    unfold frB at *
    exact ⟨by omega, by omega⟩
theorem two_same (n : Nat) (x : Nat → Nat) (h : ∀ j, j ≤ n → x j < n) : ∃ i j, i < j ∧ j ≤ n ∧ x i = x j := by
  refine Classical.byContradiction fun hc => ?_
  have hn : ((List.range (n + 1)).map x).Nodup := by
    show List.Pairwise (· ≠ ·) _
    rw [List.pairwise_map]
    refine List.Pairwise.imp_of_mem ?_ List.pairwise_lt_range
    intro a b ha hb hab e
    exact hc ⟨a, b, hab, by have := List.mem_range.1 hb; omega, e⟩
  have := pigeon n _ hn (fun y hy => by
    obtain ⟨j, hj, rfl⟩ := List.mem_map.1 hy
    exact h j (by have := List.mem_range.1 hj; omega))
  simp at this
  omega
theorem least_of (P : Nat → Prop) : ∀ q, P q → ∃ p, p ≤ q ∧ P p ∧ ∀ j, j < p → ¬ P j := by
  intro q
  induction q using Nat.strongRecOn with
  | ind q ih =>
    intro hq
    by_cases h : ∃ j, j < q ∧ P j
    · obtain ⟨j, h1, h2⟩ := h
      obtain ⟨p, h3, h4, h5⟩ := ih j h1 h2
      exact ⟨p, by omega, h4, h5⟩
    · exact ⟨q, Nat.le_refl _, hq, fun j hj hp => h ⟨j, hj, hp⟩⟩
/-- n steps back there is a way around. -/
theorem Ford.ring {n : Nat} {L : List RArc} {r k S : Nat} {R : Nat → Int} {B : Nat → RArc} {U : Nat → Nat} {last : Int} (hl : ArcsOk n L) (h : Ford n L r k S R B U last) {v : Nat} (hv : v < n) (hU : U v = n) :
    ∃ p, 1 ≤ p ∧ p ≤ n ∧ itr (frB B) p (itr (frB B) n v) = itr (frB B) n v ∧ (∀ j, 1 ≤ j → j < p → itr (frB B) j (itr (frB B) n v) ≠ itr (frB B) n v) ∧
      (∀ j, itr (frB B) j (itr (frB B) n v) < n ∧ 1 ≤ U (itr (frB B) j (itr (frB B) n v))) := by
  have hb := h.back hl hv hU
  obtain ⟨i, j, hij, hjn, hx⟩ := two_same n (fun j => itr (frB B) j v) (fun j hj => (hb j hj).1)
  have hx : itr (frB B) i v = itr (frB B) j v := hx
  have all : ∀ m, ∃ m', m' < n ∧ itr (frB B) m v = itr (frB B) m' v := by
    intro m
    induction m with
    | zero => exact ⟨0, by omega, rfl⟩
    | succ m ih =>
      obtain ⟨m', h1, h2⟩ := ih
      by_cases e : m' + 1 < n
      · exact ⟨m' + 1, e, by show frB B _ = frB B _; rw [h2]⟩
      · refine ⟨n - j + i, by omega, ?_⟩
        have e1 : itr (frB B) (m + 1) v = itr (frB B) n v := by
          rw [show n = m' + 1 by omega]
          show frB B _ = frB B _
          rw [h2]
        rw [e1, itr_add, hx, ← itr_add]
        congr 1
        omega
  have per : itr (frB B) (j - i) (itr (frB B) n v) = itr (frB B) n v := by
    rw [← itr_add, show j - i + n = (n - i) + j by omega, itr_add, ← hx, ← itr_add]
    congr 1
    omega
  obtain ⟨p, p1, ⟨p2, p3⟩, p4⟩ := least_of (fun p => 1 ≤ p ∧ itr (frB B) p (itr (frB B) n v) = itr (frB B) n v) (j - i) ⟨by omega, per⟩
  refine ⟨p, p2, by omega, p3, fun q hq hp e => p4 q hp ⟨hq, e⟩, fun m => ?_⟩
  obtain ⟨m', h1, h2⟩ := all (m + n)
  rw [← itr_add, h2]
  have := hb m' (by omega)
  exact ⟨this.1, by omega⟩
/-- what the arcs back say together. -/
def backSum (B : Nat → RArc) (v : Nat) : Nat → Int
  | 0 => 0
  | j + 1 => backSum B v j + (B (itr (frB B) j v)).room
theorem Ford.way {n : Nat} {L : List RArc} {r k S : Nat} {R : Nat → Int} {B : Nat → RArc} {U : Nat → Nat} {last : Int} (hl : ArcsOk n L) (h : Ford n L r k S R B U last) {y : Nat} (hy : ∀ j, itr (frB B) j y < n ∧ 1 ≤ U (itr (frB B) j y)) :
    ∀ j, Way (ByR B U) (itr (frB B) j y) y j (backSum B y j) := by
  intro j
  induction j with
  | zero => exact .start
  | succ j ih =>
    have hj := hy j
    obtain ⟨q1, _, _, _⟩ := h.by_ _ hj.1 hj.2
    have hk := hl _ q1
    have one : Way (ByR B U) (itr (frB B) (j + 1) y) (itr (frB B) j y) 1 (B (itr (frB B) j y)).room :=
      Way.one ⟨hj.2, by show _ = (((B (itr (frB B) j y)).fr.toNat : Nat) : Int); omega, rfl⟩
    exact (one.app ih).eq (by omega) (by show _ = backSum B y j + _; omega)
/-- the loop that is found. -/
def ringL (B : Nat → RArc) (y p : Nat) : List RArc := ((List.range p).map fun j => B (itr (frB B) j y)).reverse
theorem ringL_sum (B : Nat → RArc) (y : Nat) : ∀ p, ((ringL B y p).map RArc.room).sum = backSum B y p := by
  intro p
  induction p with
  | zero => rfl
  | succ p ih =>
    unfold ringL at ih ⊢
    rw [List.range_succ, List.map_append, List.reverse_append]
    simp only [List.map_cons, List.map_nil, List.reverse_cons, List.reverse_nil, List.nil_append, List.cons_append, List.map_cons, List.sum_cons]
    rw [ih]
    show _ = backSum B y p + _
    omega
theorem ringL_len (B : Nat → RArc) (y p : Nat) : (ringL B y p).length = p := by simp [ringL]
theorem ringL_at {B : Nat → RArc} {y p i : Nat} (h : i < p) : (ringL B y p)[i]? = some (B (itr (frB B) (p - 1 - i) y)) := by
  unfold ringL
  rw [List.getElem?_reverse (by simpa using h), List.getElem?_map]
  simp only [List.length_map, List.length_range]
  rw [List.getElem?_range (by omega)]
  rfl
/-- arcs around: each begins where the one ahead of it ends. -/
def Around (L : List RArc) : Prop := ∀ i a b, L[i]? = some a → L[(i + 1) % L.length]? = some b → b.fr = a.to
theorem Ford.ringAll {n : Nat} {L : List RArc} {r k S : Nat} {R : Nat → Int} {B : Nat → RArc} {U : Nat → Nat} {last : Int} (hl : ArcsOk n L) (h : Ford n L r k S R B U last) {y p : Nat} (hp : 1 ≤ p) (hy : ∀ j, itr (frB B) j y < n ∧ 1 ≤ U (itr (frB B) j y)) (hr : itr (frB B) p y = y) :
    (∀ a ∈ ringL B y p, a ∈ L) ∧ Around (ringL B y p) ∧ ((ringL B y p).map RArc.room).sum < 0 := by
  have fr : ∀ j, (B (itr (frB B) j y)).fr = (itr (frB B) (j + 1) y : Nat) ∧ (B (itr (frB B) j y)).to = (itr (frB B) j y : Nat) ∧ B (itr (frB B) j y) ∈ L := fun j => by
    have hj := hy j
    obtain ⟨q1, q2, _, _⟩ := h.by_ _ hj.1 hj.2
    have hk := hl _ q1
    refine ⟨?_, q2, q1⟩
    show _ = (((B (itr (frB B) j y)).fr.toNat : Nat) : Int)
    omega
  refine ⟨fun a ha => ?_, fun i a b h1 h2 => ?_, ?_⟩
  · obtain ⟨i, hi⟩ := List.getElem?_of_mem ha
    have := (List.getElem?_eq_some_iff.1 hi).1
    rw [ringL_len] at this
    rw [ringL_at this] at hi
    cases hi
    exact (fr _).2.2
  · have hi := (List.getElem?_eq_some_iff.1 h1).1
    rw [ringL_len] at hi h2
    rw [ringL_at hi] at h1
    rw [ringL_at (Nat.mod_lt _ (by omega))] at h2
    cases h1
    cases h2
    rw [(fr _).1, (fr _).2.1]
    by_cases e : i + 1 = p
    · rw [e, Nat.mod_self, show p - 1 - 0 + 1 = p by omega, hr, show p - 1 - i = 0 by omega]
      rfl
    · rw [Nat.mod_eq_of_lt (by omega), show p - 1 - (i + 1) + 1 = p - 1 - i by omega]
  · rw [ringL_sum]
    have hw := h.way hl hy p
    rw [hr] at hw
    exact h.cyc _ _ _ (by omega) hw
end Go.Proofs.YtfjpfkejajgkbaaDoor
