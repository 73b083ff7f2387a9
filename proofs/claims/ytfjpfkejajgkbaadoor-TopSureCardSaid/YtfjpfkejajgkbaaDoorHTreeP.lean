/- A tree from a root, in plain words. -/
import Derived.Test.YtfjpfkejajgkbaaDoorHG1
namespace Go.Proofs.YtfjpfkejajgkbaaDoor
open Go.RowKit
set_option linter.unusedVariables false
set_option linter.unusedSimpArgs false
structure TS where
  by_ : List Int
  inn : List Bool
  row : List Int
def tTo (r : Int) (e : REdge) : Int := if e.a = r then e.b else if e.b = r then e.a else -1
def tNew (r : Int) (e : REdge) (s : TS) : Bool := decide (0 ≤ tTo r e) && !(s.inn.getD (tTo r e).toNat true)
def tStep (r : Int) (k : Nat) (e : REdge) (s : TS) : TS := if tNew r e s = true then ⟨s.by_.set (tTo r e).toNat k, s.inn.set (tTo r e).toNat true, s.row ++ [tTo r e]⟩ else s
def tUpto (l : List REdge) (r : Int) : Nat → TS → TS
  | 0, s => s
  | k + 1, s => match l[k]? with
    | some e => tStep r k e (tUpto l r k s)
    | none => tUpto l r k s
def tInit (n root : Nat) : TS := ⟨List.replicate n (-1), (List.replicate n false).set root true, [(root : Int)]⟩
def tSt (l : List REdge) (n root : Nat) : Nat → TS
  | 0 => tInit n root
  | i + 1 => match (tSt l n root i).row[i]? with
    | some r => tUpto l r l.length (tSt l n root i)
    | none => tSt l n root i
def tFin (l : List REdge) (n root : Nat) : TS := tSt l n root n
/-- what holds of a tree as it grows. -/
structure TOk (l : List REdge) (n root : Nat) (s : TS) : Prop where
  bl : s.by_.length = n
  il : s.inn.length = n
  rb : ∀ r ∈ s.row, 0 ≤ r ∧ r < n
  nd : s.row.Nodup
  mem : ∀ x : Nat, s.inn[x]? = some true ↔ (x : Int) ∈ s.row
  hd : ∃ t, s.row = (root : Int) :: t
  key : ∀ (x : Nat), (x : Int) ∈ s.row → x ≠ root → ∃ k : Nat, k < l.length ∧ s.by_[x]? = some (k : Int)
  out : ∀ (x : Nat), x < n → ((x : Int) ∉ s.row ∨ x = root) → s.by_[x]? = some (-1)
  bb : ∀ x ∈ s.by_, -1 ≤ x ∧ x < l.length + 1
theorem TOk.len {l : List REdge} {n root : Nat} {s : TS} (h : TOk l n root s) : s.row.length ≤ n := by
  have h1 := pigeon n (s.row.map Int.toNat) (by
    unfold List.Nodup
    rw [List.pairwise_map]
    refine List.Pairwise.imp_of_mem ?_ h.nd
    intro a b ha hb hne
    have := h.rb a ha
    have := h.rb b hb
    omega) (fun x hx => by
    obtain ⟨y, hy, rfl⟩ := List.mem_map.1 hx
    have := h.rb y hy
    omega)
  simpa using h1
theorem TOk.pos {l : List REdge} {n root : Nat} {s : TS} (h : TOk l n root s) : 0 < s.row.length := by
  obtain ⟨t, e⟩ := h.hd
  rw [e]; simp
theorem TOk.init {l : List REdge} {n root : Nat} (h : root < n) : TOk l n root (tInit n root) := by
  refine ⟨by simp [tInit], by simp [tInit], fun r hr => ?_, by simp [tInit], fun x => ?_, ⟨[], rfl⟩, fun x hx hne => ?_, fun x hx _ => ?_, fun x hx => ?_⟩
  · simp [tInit] at hr; omega
  · simp only [tInit, List.mem_singleton, List.getElem?_set, List.getElem?_replicate, List.length_replicate]
    by_cases e : root = x
    · subst e; simp [h]
    · simp [e]; omega
  · simp [tInit] at hx; omega
  · simp [tInit, List.getElem?_replicate, hx]
  · simp [tInit, List.mem_replicate] at hx; omega
theorem tTo_bd {n : Nat} {l : List REdge} (hl : EdgesOk n l) {e : REdge} (he : e ∈ l) {r : Int} (h : 0 ≤ tTo r e) : tTo r e < n := by
  have := hl e he
  unfold edgeB at this
  unfold tTo at h ⊢
  split
  · omega
  · split <;> omega
theorem tNew_iff {l : List REdge} {n root : Nat} {s : TS} (h : TOk l n root s) (hl : EdgesOk n l) {e : REdge} (he : e ∈ l) {r : Int} : tNew r e s = true ↔ 0 ≤ tTo r e ∧ tTo r e ∉ s.row := by
  unfold tNew
  simp only [Bool.and_eq_true, decide_eq_true_eq, Bool.not_eq_true']
  constructor
  · rintro ⟨h1, h2⟩
    refine ⟨h1, fun hm => ?_⟩
    have := (h.mem (tTo r e).toNat).2 (by rw [Int.toNat_of_nonneg h1]; exact hm)
    rw [List.getD, this] at h2
    cases h2
  · rintro ⟨h1, h2⟩
    refine ⟨h1, ?_⟩
    have hb := tTo_bd hl he h1
    have hlt : (tTo r e).toNat < s.inn.length := by rw [h.il]; omega
    cases hv : s.inn[(tTo r e).toNat]? with
    | none => rw [List.getElem?_eq_none_iff] at hv; omega
    | some b =>
      rw [List.getD, hv]
      cases b with
      | false => rfl
      | true =>
        have := (h.mem _).1 hv
        rw [Int.toNat_of_nonneg h1] at this
        exact absurd this h2
theorem TOk.step {l : List REdge} {n root : Nat} {s : TS} (h : TOk l n root s) (hl : EdgesOk n l) {k : Nat} {e : REdge} (he : l[k]? = some e) (r : Int) : TOk l n root (tStep r k e s) := by
  have hm := List.mem_of_getElem? he
  have hk := (List.getElem?_eq_some_iff.1 he).1
  unfold tStep
  by_cases c : tNew r e s = true
  · rw [if_pos c]
    obtain ⟨c1, c2⟩ := (tNew_iff h hl hm).1 c
    have hb := tTo_bd hl hm c1
    generalize tTo r e = t at *
    obtain ⟨x, rfl⟩ := Int.eq_ofNat_of_zero_le c1
    have hx : x < n := by omega
    simp only [Int.toNat_natCast]
    obtain ⟨tl, htl⟩ := h.hd
    have hxr : x ≠ root := by
      rintro rfl
      exact c2 (by rw [htl]; simp)
    refine ⟨by simp [h.bl], by simp [h.il], fun y hy => ?_, ?_, fun y => ?_, ⟨tl ++ [(x : Int)], by simp [htl]⟩, fun y hy hne => ?_, fun y hy hr => ?_, fun y hy => ?_⟩
    · rcases List.mem_append.1 hy with hy | hy
      · exact h.rb y hy
      · simp at hy; omega
    · rw [List.nodup_append]
      refine ⟨h.nd, by simp, fun a ha b hb' => ?_⟩
      simp at hb'
      rintro rfl
      subst hb'
      exact c2 ha
    · rw [List.getElem?_set, List.mem_append]
      by_cases e1 : x = y
      · subst e1
        rw [if_pos rfl, if_pos (by rw [h.il]; omega)]; simp
      · rw [if_neg e1, h.mem y]
        constructor
        · exact .inl
        · rintro (g | g)
          · exact g
          · simp at g; omega
    · rw [List.getElem?_set]
      by_cases e1 : x = y
      · subst e1
        exact ⟨k, hk, by rw [if_pos rfl, if_pos (by rw [h.bl]; omega)]⟩
      · rw [if_neg e1]
        refine h.key y ?_ hne
        rcases List.mem_append.1 hy with hy | hy
        · exact hy
        · simp at hy; omega
    · rw [List.getElem?_set]
      by_cases e1 : x = y
      · subst e1
        rcases hr with hr | hr
        · exact absurd (List.mem_append.2 (.inr (by simp))) hr
        · exact absurd hr hxr
      · rw [if_neg e1]
        refine h.out y hy ?_
        rcases hr with hr | hr
        · exact .inl (fun g => hr (List.mem_append.2 (.inl g)))
        · exact .inr hr
    · rcases List.mem_or_eq_of_mem_set hy with hy | rfl
      · exact h.bb y hy
      · omega
  · rw [if_neg c]; exact h
theorem TOk.upto {l : List REdge} {n root : Nat} {s : TS} (h : TOk l n root s) (hl : EdgesOk n l) (r : Int) : ∀ k, TOk l n root (tUpto l r k s)
  | 0 => h
  | k + 1 => by
    unfold tUpto
    split
    · rename_i e he
      exact (TOk.upto h hl r k).step hl he r
    · exact TOk.upto h hl r k
theorem TOk.st {l : List REdge} {n root : Nat} (hr : root < n) (hl : EdgesOk n l) : ∀ i, TOk l n root (tSt l n root i)
  | 0 => TOk.init hr
  | i + 1 => by
    unfold tSt
    split
    · exact (TOk.st hr hl i).upto hl _ _
    · exact TOk.st hr hl i
theorem tStep_row (r : Int) (k : Nat) (e : REdge) (s : TS) : ∃ t, (tStep r k e s).row = s.row ++ t := by
  unfold tStep
  split
  · exact ⟨_, rfl⟩
  · exact ⟨[], by simp⟩
theorem tUpto_row (l : List REdge) (r : Int) (s : TS) : ∀ k, ∃ t, (tUpto l r k s).row = s.row ++ t
  | 0 => ⟨[], by simp [tUpto]⟩
  | k + 1 => by
    obtain ⟨t, ht⟩ := tUpto_row l r s k
    unfold tUpto
    split
    · rename_i e _
      obtain ⟨u, hu⟩ := tStep_row r k e (tUpto l r k s)
      exact ⟨t ++ u, by rw [hu, ht, List.append_assoc]⟩
    · exact ⟨t, ht⟩
theorem tUpto_at {l : List REdge} {r : Int} {s : TS} {i : Nat} (h : s.row[i]? = some r) (k : Nat) : (tUpto l r k s).row[i]? = some r := by
  obtain ⟨t, ht⟩ := tUpto_row l r s k
  rw [ht, List.getElem?_append_left (List.getElem?_eq_some_iff.1 h).1]
  exact h
theorem tUpto_succ {l : List REdge} {r : Int} {s : TS} {k : Nat} {e : REdge} (h : l[k]? = some e) : tUpto l r (k + 1) s = tStep r k e (tUpto l r k s) := by
  conv => lhs; unfold tUpto
  rw [h]
theorem tSt_succ {l : List REdge} {n root i : Nat} {r : Int} (h : (tSt l n root i).row[i]? = some r) : tSt l n root (i + 1) = tUpto l r l.length (tSt l n root i) := by
  conv => lhs; unfold tSt
  rw [h]
/-- at the end of the row nothing changes any more. -/
theorem tSt_fix {l : List REdge} {n root i : Nat} (h : (tSt l n root i).row.length ≤ i) : ∀ j, tSt l n root (i + j) = tSt l n root i
  | 0 => rfl
  | j + 1 => by
    have ih := tSt_fix h j
    rw [← Nat.add_assoc]
    conv => lhs; unfold tSt
    rw [ih, List.getElem?_eq_none (by omega)]
theorem tSt_end {l : List REdge} {n root i : Nat} (h : (tSt l n root i).row.length ≤ i) (hi : i ≤ n) : tSt l n root i = tFin l n root := by
  have := tSt_fix h (n - i)
  unfold tFin
  rw [← this]
  congr 1; omega
end Go.Proofs.YtfjpfkejajgkbaaDoor
