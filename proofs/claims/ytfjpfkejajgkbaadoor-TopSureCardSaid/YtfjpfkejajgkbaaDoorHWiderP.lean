/- What a tree says of a node is what a way says, in plain words. -/
import Derived.Test.YtfjpfkejajgkbaaDoorHTreeS
import Derived.Test.YtfjpfkejajgkbaaDoorHG1
namespace Go.Proofs.YtfjpfkejajgkbaaDoor
open Go.RowKit
set_option linter.unusedVariables false
set_option linter.unusedSimpArgs false
/-- in a tree each node but the root came by an edge from a node ahead of it in the row. -/
def TPar (l : List REdge) (s : TS) : Prop :=
  ∀ k x, 1 ≤ k → s.row[k]? = some x → ∃ (kk : Nat) (e : REdge) (p : Int), s.by_[x.toNat]? = some (kk : Int) ∧ l[kk]? = some e ∧ p ∈ s.row.take k ∧ ((e.a = x ∧ e.b = p) ∨ (e.b = x ∧ e.a = p ∧ e.a ≠ x))
theorem TPar.step {l : List REdge} {n root : Nat} {s : TS} (h : TOk l n root s) (hl : EdgesOk n l) (g : TPar l s) {k : Nat} {e : REdge} (he : l[k]? = some e) {r : Int} (hr : r ∈ s.row) : TPar l (tStep r k e s) := by
  have hm := List.mem_of_getElem? he
  have hd := hl e hm
  unfold edgeB at hd
  unfold tStep
  by_cases c : tNew r e s = true
  · rw [if_pos c]
    obtain ⟨c1, c2⟩ := (tNew_iff h hl hm).1 c
    have hb := tTo_bd hl hm c1
    intro i x hi hx
    simp only at hx ⊢
    by_cases hlt : i < s.row.length
    · rw [List.getElem?_append_left hlt] at hx
      obtain ⟨kk, e', p, h1, h2, h3, h4⟩ := g i x hi hx
      have hxm := List.mem_of_getElem? hx
      have hxr := h.rb x hxm
      refine ⟨kk, e', p, ?_, h2, ?_, h4⟩
      · rw [List.getElem?_set, if_neg ?_]
        · exact h1
        · intro q
          have : tTo r e = x := by omega
          exact c2 (by rw [this]; exact hxm)
      · rw [List.take_append_of_le_length (by omega)]; exact h3
    · have hi' : i = s.row.length := by
        have := (List.getElem?_eq_some_iff.1 hx).1
        simp at this
        omega
      subst hi'
      rw [List.getElem?_append_right (Nat.le_refl _)] at hx
      simp at hx
      subst hx
      refine ⟨k, e, r, ?_, he, ?_, ?_⟩
      · rw [List.getElem?_set, if_pos rfl, if_pos (by rw [h.bl]; omega)]
      · rw [List.take_append_of_le_length (Nat.le_refl _), List.take_length]; exact hr
      · unfold tTo at c1 ⊢
        by_cases q1 : e.a = r
        · rw [if_pos q1]; right; exact ⟨rfl, q1, by omega⟩
        · rw [if_neg q1] at c1 ⊢
          by_cases q2 : e.b = r
          · rw [if_pos q2]; left; exact ⟨rfl, q2⟩
          · rw [if_neg q2] at c1; omega
  · rw [if_neg c]; exact g
theorem tUpto_mem {l : List REdge} {r : Int} {s : TS} {x : Int} (h : x ∈ s.row) (k : Nat) : x ∈ (tUpto l r k s).row := by
  obtain ⟨t, ht⟩ := tUpto_row l r s k
  rw [ht]; exact List.mem_append.2 (.inl h)
theorem TPar.upto {l : List REdge} {n root : Nat} {s : TS} (h : TOk l n root s) (hl : EdgesOk n l) (g : TPar l s) {r : Int} (hr : r ∈ s.row) : ∀ k, TPar l (tUpto l r k s)
  | 0 => g
  | k + 1 => by
    unfold tUpto
    split
    · rename_i e he
      exact (TPar.upto h hl g hr k).step (h.upto hl r k) hl he (tUpto_mem hr k)
    · exact TPar.upto h hl g hr k
theorem TPar.st {l : List REdge} {n root : Nat} (hr : root < n) (hl : EdgesOk n l) : ∀ i, TPar l (tSt l n root i)
  | 0 => fun k x hk hx => by
    have := (List.getElem?_eq_some_iff.1 hx).1
    simp [tSt, tInit] at this
    omega
  | i + 1 => by
    unfold tSt
    split
    · rename_i r h
      exact (TPar.st hr hl i).upto (TOk.st hr hl i) hl (List.mem_of_getElem? h) _
    · exact TPar.st hr hl i
theorem TOk.near {l : List REdge} {n root : Nat} {s : TS} (h : TOk l n root s) (hl : EdgesOk n l) (r : Int) : ∀ k k' e, k' < k → l[k']? = some e → 0 ≤ tTo r e → tTo r e ∈ (tUpto l r k s).row
  | 0, k', e, h1, _, _ => absurd h1 (by omega)
  | k + 1, k', e, h1, h2, h3 => by
    by_cases q : k' = k
    · subst q
      rw [tUpto_succ h2]
      have ho := h.upto hl r k'
      unfold tStep
      split
      · exact List.mem_append.2 (.inr (by simp))
      · rename_i c
        refine Classical.byContradiction fun hc => c ((tNew_iff ho hl (List.mem_of_getElem? h2)).2 ⟨h3, hc⟩)
    · have ih := TOk.near h hl r k k' e (by omega) h2 h3
      unfold tUpto
      split
      · rename_i e' _
        obtain ⟨t, ht⟩ := tStep_row r k e' (tUpto l r k s)
        rw [ht]; exact List.mem_append.2 (.inl ih)
      · exact ih
theorem tSt_done {l : List REdge} {n root : Nat} (hr : root < n) (hl : EdgesOk n l) : ∀ i j r e, j < i → (tSt l n root i).row[j]? = some r → e ∈ l → 0 ≤ tTo r e → tTo r e ∈ (tSt l n root i).row
  | 0, j, r, e, h1, _, _, _ => absurd h1 (by omega)
  | i + 1, j, r, e, h1, h2, h3, h4 => by
    obtain ⟨k', hk'⟩ := List.getElem?_of_mem h3
    have hkl := (List.getElem?_eq_some_iff.1 hk').1
    cases hx : (tSt l n root i).row[i]? with
    | none =>
      have e1 : tSt l n root (i + 1) = tSt l n root i := by
        conv => lhs; unfold tSt
        rw [hx]
      rw [e1] at h2 ⊢
      have := (List.getElem?_eq_some_iff.1 h2).1
      rw [List.getElem?_eq_none_iff] at hx
      exact tSt_done hr hl i j r e (by omega) h2 h3 h4
    | some x =>
      rw [tSt_succ hx] at h2 ⊢
      have hxi := (List.getElem?_eq_some_iff.1 hx).1
      by_cases q : j = i
      · subst q
        rw [tUpto_at hx] at h2
        cases h2
        exact (TOk.st hr hl j).near hl _ l.length k' e hkl hk' h4
      · obtain ⟨t, ht⟩ := tUpto_row l x (tSt l n root i) l.length
        rw [ht, List.getElem?_append_left (by omega)] at h2
        exact tUpto_mem (tSt_done hr hl i j r e (by omega) h2 h3 h4) _
/-- who is on a way from the root is in the row. -/
theorem tree_all {l : List REdge} {n root : Nat} (hr : root < n) (hl : EdgesOk n l) {x r : Nat} {c : Int} (g : Way (Arc l) root x r c) : (x : Int) ∈ (tFin l n root).row := by
  have ho := TOk.st hr hl n
  induction g with
  | start =>
    obtain ⟨t, e⟩ := ho.hd
    show _ ∈ (tSt l n root n).row
    rw [e]; simp
  | @go x y r c w _ hw ih =>
    obtain ⟨e, he, hh⟩ := hw
    have hd := hl e he
    unfold edgeB at hd
    obtain ⟨j, hj⟩ := List.getElem?_of_mem ih
    have hjn : j < n := by
      have := (List.getElem?_eq_some_iff.1 hj).1
      have := ho.len
      have e2 : (tFin l n root).row.length = (tSt l n root n).row.length := rfl
      omega
    have et : tTo (x : Int) e = (y : Int) := by
      unfold tTo
      rcases hh with ⟨h1, h2, _⟩ | ⟨h1, h2, _⟩
      · rw [if_pos h1, h2]
      · rw [if_neg (by omega), if_pos h1, h2]
    have := tSt_done hr hl n j x e hjn hj he (by rw [et]; omega)
    rw [et] at this
    exact this
/-- what is said of a node is what a way says, both ways. -/
def SaidW (l : List REdge) (root x : Nat) (s : RSpan) : Prop := rightB s.lo s.hi = true ∧ (∃ r, Way (Arc l) root x r s.hi) ∧ ∃ r, Way (Arc l) x root r (-s.lo)
structure SpW (l : List REdge) (n root : Nat) (seen : List Int) (out : List RSpan) (inn : List Bool) : Prop where
  ol : out.length = n
  il : inn.length = n
  yes : ∀ x : Nat, (x : Int) ∈ seen → inn[x]? = some true ∧ ∃ s, out[x]? = some s ∧ SaidW l root x s
  no : ∀ x : Nat, x < n → (x : Int) ∉ seen → inn[x]? = some false
theorem spGo_w {l : List REdge} {n root : Nat} (hl : EdgesOk n l) {T : TS} (ho : TOk l n root T) (hp : TPar l T) :
    ∀ m k out inn o b, 1 ≤ k → k + m = T.row.length → SpW l n root (T.row.take k) out inn → spGo l T.by_ (T.row.drop k) out inn = some (o, b) → SpW l n root T.row o b := by
  intro m
  induction m with
  | zero =>
    intro k out inn o b h1 hk h hs
    rw [spGo_end (by omega)] at hs
    cases hs
    rw [List.take_of_length_le (by omega)] at h
    exact h
  | succ m ih =>
    intro k out inn o b h1 hk h hs
    have hx : T.row[k]? = some T.row[k] := List.getElem?_eq_getElem (by omega)
    obtain ⟨x, hxe⟩ : ∃ x, T.row[k] = x := ⟨_, rfl⟩
    rw [hxe] at hx
    rw [spGo_at hx] at hs
    have hxb := ho.rb x (List.mem_of_getElem? hx)
    obtain ⟨y, rfl⟩ := Int.eq_ofNat_of_zero_le hxb.1
    have hyn : y < n := by omega
    split at hs
    · rename_i hr
      obtain ⟨kk, e, p, q1, q2, q3, q4⟩ := hp k _ h1 hx
      have hpm := ho.rb p (List.mem_of_mem_take q3)
      obtain ⟨z, rfl⟩ := Int.eq_ofNat_of_zero_le hpm.1
      have hzn : z < n := by omega
      obtain ⟨_, f, f1, f2, ⟨r1, f3⟩, ⟨r2, f4⟩⟩ := h.yes z q3
      have hem := List.mem_of_getElem? q2
      simp only [Int.toNat_natCast] at q1 hs
      have said : SaidW l root y (spSum l T.by_ out y) := by
        refine ⟨hr, ?_⟩
        rcases q4 with ⟨u1, u2⟩ | ⟨u1, u2, u3⟩
        · rw [spSum_eq q1 q2 f1 (by rw [if_pos u1, u2]), if_pos u1]
          have a1 : Arc l z y (-e.lo) := ⟨e, hem, .inr ⟨u2, u1, rfl⟩⟩
          have a2 : Arc l y z e.hi := ⟨e, hem, .inl ⟨u1, u2, rfl⟩⟩
          exact ⟨⟨r1 + 1, .go f3 a1⟩, ⟨1 + r2, ((Way.one a2).app f4).eq rfl (by simp only []; omega)⟩⟩
        · rw [spSum_eq q1 q2 f1 (by rw [if_neg u3, u2]), if_neg u3]
          have a1 : Arc l z y e.hi := ⟨e, hem, .inl ⟨u2, u1, rfl⟩⟩
          have a2 : Arc l y z (-e.lo) := ⟨e, hem, .inr ⟨u1, u2, rfl⟩⟩
          exact ⟨⟨r1 + 1, .go f3 a1⟩, ⟨1 + r2, ((Way.one a2).app f4).eq rfl (by simp only []; omega)⟩⟩
      obtain ⟨S, hS⟩ : ∃ S, spSum l T.by_ out y = S := ⟨_, rfl⟩
      rw [hS] at said hs
      refine ih (k + 1) _ _ o b (by omega) (by omega) ⟨by simp [h.ol], by simp [h.il], fun v hv => ?_, fun v hvn hv => ?_⟩ hs
      · rw [List.take_add_one, hx] at hv
        by_cases e1 : y = v
        · subst e1
          exact ⟨by rw [List.getElem?_set, if_pos rfl, if_pos (by rw [h.il]; omega)], S, by rw [List.getElem?_set, if_pos rfl, if_pos (by rw [h.ol]; omega)], said⟩
        · rcases List.mem_append.1 hv with hv | hv
          · obtain ⟨g1, s, g2, g3⟩ := h.yes v hv
            exact ⟨by rw [List.getElem?_set, if_neg e1]; exact g1, s, by rw [List.getElem?_set, if_neg e1]; exact g2, g3⟩
          · simp at hv; omega
      · rw [List.take_add_one, hx] at hv
        have e1 : y ≠ v := by
          rintro rfl
          exact hv (List.mem_append.2 (.inr (by simp)))
        rw [List.getElem?_set, if_neg e1]
        exact h.no v hvn (fun q => hv (List.mem_append.2 (.inl q)))
    · cases hs
/-- what the tree says of a node. -/
theorem spD_w {l : List REdge} {N R : Nat} (hR : R < N) (hl : EdgesOk N l) {o : List RSpan} {b : List Bool} (h : spD N R l = some (o, b)) :
    o.length = N ∧ b.length = N ∧ ∀ x, x < N → (b[x]? = some true ∧ ∃ s, o[x]? = some s ∧ SaidW l R x s) ∨ (b[x]? = some false ∧ ∀ r c, ¬ Way (Arc l) R x r c) := by
  have ho := TOk.st (l := l) (n := N) (root := R) hR hl N
  have hp := TPar.st (l := l) (n := N) (root := R) hR hl N
  obtain ⟨t, ht⟩ := ho.hd
  unfold spD at h
  rw [← List.drop_one] at h
  have hpos := ho.pos
  have hw := spGo_w hl (T := tFin l N R) ho hp ((tFin l N R).row.length - 1) 1 _ _ o b (Nat.le_refl _) (by
    have e2 : (tFin l N R).row.length = (tSt l N R N).row.length := rfl
    omega) ⟨by simp, by simp, fun x hx => ?_, fun x hx hn => ?_⟩ h
  · refine ⟨hw.ol, hw.il, fun x hx => ?_⟩
    by_cases q : (x : Int) ∈ (tFin l N R).row
    · exact .inl (hw.yes x q)
    · exact .inr ⟨hw.no x hx q, fun r c g => q (tree_all hR hl g)⟩
  · have e : (tFin l N R).row = (R : Int) :: t := ht
    rw [e] at hx
    simp at hx
    have : x = R := by omega
    subst this
    refine ⟨by rw [List.getElem?_set, if_pos rfl, if_pos (by simpa using hR)], ⟨0, 0⟩, by rw [List.getElem?_replicate, if_pos hR], ?_, ⟨0, .start⟩, ⟨0, by simpa using Way.start⟩⟩
    exact rightB_iff.2 (by simp)
  · have e : (tFin l N R).row = (R : Int) :: t := ht
    rw [e] at hn
    simp at hn
    rw [List.getElem?_set, if_neg (by omega), List.getElem?_replicate, if_pos hx]
end Go.Proofs.YtfjpfkejajgkbaaDoor
