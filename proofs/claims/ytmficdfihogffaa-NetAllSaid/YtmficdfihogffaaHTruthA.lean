/- Acts of a net of true clocks: who asks, and is answered, knows. No program stands here. -/
import Derived.Test.YtmficdfihogffaaHTruthE
namespace Go.Proofs.Ytmficdfihogffaa
open Go.RowKit
set_option linter.unusedVariables false
set_option linter.unusedSimpArgs false
variable {n : Nat} {ss rs : List Int} {p t : Int} {us : List RLetter} {S S' : Nat → NSt}
theorem clock_at (ls : ss.length = n) (lr : rs.length = n) {i : Nat} (hi : i < n) (t : Int) : ∃ s r, ss[i]? = some s ∧ rs[i]? = some r ∧ hereAt ss rs t i = readV s r t := by
  obtain ⟨s, hs⟩ : ∃ s, ss[i]? = some s := ⟨_, List.getElem?_eq_getElem (by omega)⟩
  obtain ⟨r, hr⟩ : ∃ s, rs[i]? = some s := ⟨_, List.getElem?_eq_getElem (by omega)⟩
  exact ⟨s, r, hs, hr, hereAt_eq hs hr⟩
theorem ask_act (ls : ss.length = n) (lr : rs.length = n) {i k : Nat} (hi : i < n) (hk : k < n) (hne : i ≠ k) : NAct n ss rs t [] S ⟨2, (i : Int), (k : Int)⟩ 0 t [⟨(i : Int), (k : Int), false, 0, 0, hereAt ss rs t i⟩] S := by
  obtain ⟨s, r, hs, hr, he⟩ := clock_at ls lr hi t
  rw [he]
  exact .quiet _ _ _ _ (WAct.ask (us := []) i k s r hs hr hk hne (by simp))
theorem go_act {a b : Int} (h0 : 0 ≤ a) (h1 : a ≤ 1000000) (h2 : t + a ≤ 1000000000) : NAct n ss rs t us S ⟨1, a, b⟩ 0 (t + a) us S := .quiet _ _ _ _ (.gone a b h0 h1 h2)
theorem told_ask (h : TrueN n ss rs p t us S) (ls : ss.length = n) (lr : rs.length = n) {i k : Nat} (hi : i < n) (hk : k < n) (hne : i ≠ k) (T : Int) :
    NAct n ss rs t [⟨(i : Int), (k : Int), false, 0, 0, T⟩] S ⟨3, 0, 0⟩ 0 t [⟨(k : Int), (i : Int), true, T, hereAt ss rs t k, hereAt ss rs t k⟩] (updS S k ((S k).heard (hereAt ss rs t k))) := by
  obtain ⟨s, r, hs, hr, he⟩ := clock_at ls lr hk t
  have hw : WAct n ss rs t [⟨(i : Int), (k : Int), false, 0, 0, T⟩] ⟨3, ((0 : Nat) : Int), 0⟩ 0 (some ⟨(i : Int), (k : Int), false, 0, 0, T⟩) t [] := WAct.deliver 0 _ 0 rfl
  have hb := h.not_back hk
  obtain ⟨s1, s2, s3⟩ := h.sN k hk
  rw [he] at hb ⊢
  have hh : Hears (S k) ⟨(i : Int), (k : Int), false, 0, 0, T⟩ (readV s r t) false 0 ((S k).heard (readV s r t)) := .ask hb (by rw [s2]) (by rw [s2]; show (i : Int) ≠ k; omega) (by show (0 : Int) ≤ i; omega) (by rw [s1]; show (i : Int) < n; omega) rfl
  have ha : WAns n ss rs t [] ⟨(i : Int), (k : Int), false, 0, 0, T⟩ 0 ([] ++ [⟨(k : Int), (i : Int), true, T, readV s r t, readV s r t⟩]) := WAns.ok i k s r 0 0 T hs hr hi (by simp)
  exact NAct.asked _ t [] _ _ k s r false 0 _ hw rfl hs hr hh rfl ha
theorem told_ans (ls : ss.length = n) (lr : rs.length = n) {L : RLetter} (h : TrueN n ss rs p t [L] S) {i k : Nat} (hi : i < n) (hk : k < n) (hne : i ≠ k) (hs' : L.src = k) (hd : L.dst = i) (ha : L.answer = true) :
    ∃ lo hi', NAct n ss rs t [L] S ⟨3, 0, 0⟩ 0 t [] (updS S i ((S i).learn k (hereAt ss rs t i) lo hi')) := by
  obtain ⟨s, r, hs, hr, he⟩ := clock_at ls lr hi t
  have hw : WAct n ss rs t [L] ⟨3, ((0 : Nat) : Int), 0⟩ 0 (some L) t [] := WAct.deliver 0 _ 0 rfl
  have hb := h.not_back hi
  obtain ⟨s1, s2, s3⟩ := h.sN i hi
  obtain ⟨hL, hT⟩ := h.L L (by simp)
  obtain ⟨o1, j, o2, o3, o4, o5, o6, o7⟩ := h.off hi hL hT hd ha
  have e1 : L.dst = (S i).id := by rw [s2, hd]
  have e2 : L.src ≠ (S i).id := by rw [s2, hs']; omega
  have e3 : 0 ≤ L.src := by rw [hs']; omega
  have e4 : L.src < (S i).N := by rw [s1, hs']; omega
  rw [← s3] at o1 o4 o5
  rw [← hs']
  cases hf : (S i).f L.src with
  | none =>
    have hh := Hears.first hb e1 e2 e3 e4 ha o1 hf
    rw [he] at hh ⊢
    exact ⟨_, _, NAct.told _ t [] L i s r true _ hw hd hs hr hh ha⟩
  | some kn =>
    obtain ⟨j', a0, a1, a2, a3, a4, a5⟩ := h.age hi hf
    obtain rfl : j = j' := by omega
    rw [← s3] at a2 a3
    have hh := Hears.more kn hb e1 e2 e3 e4 ha o1 hf (by unfold commonB; rw [decide_eq_true_eq]; omega)
    rw [he] at hh ⊢
    exact ⟨_, _, NAct.told _ t [] L i s r true _ hw hd hs hr hh ha⟩
/-- who is known. -/
def Known (S : Nat → NSt) (i : Nat) (x : Int) : Prop := ∃ k, (S i).f x = some k
theorem Known.learn {i : Nat} {x y here lo hi : Int} (h : Known S i y ∨ x = y) : Known (updS S i ((S i).learn x here lo hi)) i y := by
  unfold Known updS
  rw [if_pos rfl]
  show ∃ k, (if y = x then some (⟨lo, hi, here⟩ : Kn) else (S i).f y) = some k
  by_cases e : y = x
  · rw [if_pos e]; exact ⟨_, rfl⟩
  · rw [if_neg e]
    rcases h with h | h
    · exact h
    · exact absurd h.symm e
theorem Known.heard {i k : Nat} {y here : Int} (h : Known S i y) : Known (updS S k ((S k).heard here)) i y := by
  unfold Known updS
  by_cases e : i = k
  · subst e; rw [if_pos rfl]; exact h
  · rw [if_neg e]; exact h
theorem TrueN.edge_known (h : TrueN n ss rs p t us S) {i k : Nat} (hi : i < n) (hk : k < n) (hne : i ≠ k) (hK : Known S i k) : ∃ e ∈ netL (hereAt ss rs t) S n, e.a = i ∧ e.b = k := by
  obtain ⟨kn, hkn⟩ := hK
  obtain ⟨s1, s2, s3⟩ := h.sN i hi
  refine ⟨⟨(S i).id, k, (spanAt (S i) (hereAt ss rs t i) k).lo, (spanAt (S i) (hereAt ss rs t i) k).hi⟩, List.mem_flatMap.2 ⟨i, List.mem_range.2 hi, ?_⟩, by rw [s2], rfl⟩
  unfold tellE
  rw [if_pos (h.tell hi)]
  refine List.mem_flatMap.2 ⟨k, List.mem_range.2 (by rw [s1]; exact hk), ?_⟩
  unfold edgeAt
  rw [if_pos]
  · exact List.mem_singleton.2 rfl
  · refine ⟨?_, by rw [s2]; omega⟩
    unfold hasAt
    rw [hkn]
    (try simp)
theorem TrueN.offset_known (h : TrueN n ss rs p t us S) (h1 : 1 ≤ n) {a b : Nat} (ha : a < n) (hb : b < n) (hW : ∃ r c, Way (Arc (netL (hereAt ss rs t) S n)) a b r c) {x : RSpan} {c : Int} (hO : OffS n (hereAt ss rs t) S a b x c) : c = 0 ∧ hasB x.lo x.hi (hereAt ss rs t b - hereAt ss rs t a) = true := by
  rcases h.offset h1 ha hb hO with h5 | h5
  · exfalso
    rcases hO with ⟨_, g, _⟩ | ⟨_, ⟨g, _⟩ | ⟨_, hB⟩⟩
    · omega
    · exact absurd (h.netC n (Nat.le_refl _)) g
    · rcases hB with ⟨g, _⟩ | ⟨_, _, g, _⟩ | ⟨_, _, ⟨_, g, _⟩ | ⟨_, D, hD, ⟨_, g, _⟩ | ⟨_, ⟨g, _⟩ | ⟨_, g, _⟩⟩⟩⟩
      · exact absurd (h.edgesC h1) g
      · omega
      · omega
      · omega
      · simp only [Int.toNat_natCast] at g hD
        obtain ⟨r, c', w⟩ := hW
        rcases hD a b ha hb with ⟨_, q⟩ | ⟨q, _⟩
        · exact q _ _ w
        · exact g (of_decide_eq_true q)
      · omega
  · exact h5
end Go.Proofs.Ytmficdfihogffaa
