/- append(row, slice...) where the row is the call's own and the slice came in, empty or nil too. -/
import Derived.Test.YtdjkhagdckhijaaDoorOwn
import Derived.Laws.AppendOwnNone
namespace Go.Proofs.YtdjkhagdckhijaaDoor
open Go.RowKit
set_option linter.unusedVariables false
set_option linter.unusedSimpArgs false
theorem flat_inv {E : Type} (cells : E → List Value) (k : Nat) (hk : ∀ z, (cells z).length = k) (zs : List E) (j : Nat) (u : Value) (h : (zs.flatMap cells)[j]? = some u) : ∃ i q z, j = i * k + q ∧ zs[i]? = some z ∧ (cells z)[q]? = some u := by
  induction zs generalizing j with
  | nil => simp at h
  | cons y zs ih =>
    rw [List.flatMap_cons] at h
    by_cases c : j < k
    · rw [List.getElem?_append_left (by rw [hk]; exact c)] at h
      exact ⟨0, j, y, by omega, rfl, h⟩
    · rw [List.getElem?_append_right (by rw [hk]; omega), hk] at h
      obtain ⟨i, q, z, h1, h2, h3⟩ := ih _ h
      exact ⟨i + 1, q, z, by rw [Nat.succ_mul]; omega, by simpa using h2, h3⟩
theorem recs_cell {E : Type} {w : World} {cells : E → List Value} {ok : E → Prop} {k : Nat} {b off n c : Nat} {zs : List E} (hk : ∀ z, (cells z).length = k) (h : IsRecs w cells ok k (some ⟨b, off, none⟩) n c zs) : ∀ j u, (zs.flatMap cells)[j]? = some u → w.cell? ((⟨b, off, none⟩ : Addr).add j) = some u := by
  intro j u hu
  obtain ⟨i, q, z, h1, h2, h3⟩ := flat_inv cells k hk zs j u hu
  have hi := (List.getElem?_eq_some_iff.1 h2).1
  have hl := h.1
  obtain ⟨b', off', e, _, hc⟩ := h.2.2.2.2 (by omega)
  cases e
  have := hc i z h2 q u h3
  rw [show (⟨b, off, none⟩ : Addr).add j = ⟨b, off + j, none⟩ by unfold Addr.add; split <;> simp_all]
  rw [show off + j = off + i * k + q by omega]
  exact this
theorem run_append_owned_zero {P : Program} {w : World} (base : Nat) (t ty e : TypeId) (i : TypeInfo) (size : Nat) (ht : P.underlying t = some (.slice e)) (hi : P.info? e = some i)
    (v : Value) (n : Nat) (xs : List Value) (hown : w.ownsRow base e size v n xs) (A : Option Addr) (c : Nat) :
    (Builtin.append_ #[t, t] ty #[v, .slice A 0 c]).run P w = .ok v w := by
  rcases hown.2 with ⟨rfl, rfl⟩ | ⟨g, cap, cur, rfl, _, _, hnc, _⟩ <;> cases A
  · simp [Builtin.append_, run_underlying ht, sizeOf, typeInfo, hi, Builtin.lenOf, Builtin.firstCells]
  · simp [Builtin.append_, run_underlying ht, sizeOf, typeInfo, hi, Builtin.lenOf, Builtin.firstCells, loadCells, loadCellsFrom]
  · simp [Builtin.append_, run_underlying ht, sizeOf, typeInfo, hi, Builtin.lenOf, Builtin.firstCells, hnc, storeCells]
  · simp [Builtin.append_, run_underlying ht, sizeOf, typeInfo, hi, Builtin.lenOf, Builtin.firstCells, hnc, storeCells, loadCells, loadCellsFrom]
theorem wpList_append_recs {E : Type} (cells : E → List Value) (ok : E → Prop) (k : Nat) (hk : ∀ z, (cells z).length = k) (h1 : ∀ z, ∀ u ∈ cells z, u.oneCell' = true)
    {P : Program} (w : World) {ops : Array Oper} {rest : List Oper} {o : Oper} {a : Act} {Q : Exit → Act → World → Prop} (hgd : o.guard = none) (s x : Operand) (t : TypeId)
    (ho : o.op = .call { callee := .builtin .append, args := #[s, x], argTypes := #[t, t] })
    (base : Nat) (e : TypeId) (i : TypeInfo) (z : Value) (bytes : Nat) (ht : P.underlying t = some (.slice e)) (hi : P.info? e = some i) (hz : i.zero = some z)
    (hsize : i.size = k) (hby : i.bytes = bytes) (hzs : z.cells.size = k) (hsz : 0 < k)
    (v : Value) (m : Nat) (xs : List Value) (hs : a.eval s = v) (hown : w.ownsRow base e k v m xs)
    (A : Option Addr) (n c : Nat) (zs : List E) (hx : a.eval x = .slice A n c) (hR : IsRecs w cells ok k A n c zs)
    (h63 : m + n ≤ maxLen) (hbytes : (m + n) * bytes ≤ 140737488355328) (hbase : base ≤ w.heap.size)
    (h : ∀ v' w', w'.ownsRow base e k v' (m + n) (xs ++ zs.flatMap cells) → w.grownBy w' v.ownBlock → wpList P ops Q rest (a.put o.dst v') w') : wpList P ops Q (o :: rest) a w := by
  by_cases hn : n = 0
  · subst hn
    have hzs0 : zs = [] := List.length_eq_zero_iff.1 hR.1
    subst hzs0
    refine wpList_plain hgd fun K hK => ?_
    have hrun := run_append_owned_zero (P := P) (w := w) base t o.type e i k ht hi v m xs hown A c
    unfold Oper.wp
    simp [execOp, ho, resolve, invoke, builtin, hs, hx, hrun, Result.andThen]
    exact hK _ _ (h v w (by simpa using hown) (World.grownBy.refl w _))
  · obtain ⟨b, off, rfl, _, _⟩ := hR.2.2.2.2 (by omega)
    exact wpList_append_own w hgd s x t ho base e i z k bytes ht hi hz hsize hby hzs hsz v m xs hs hown ⟨b, off, none⟩ n c (zs.flatMap cells) hx (by rw [flat_len cells k hk, hR.1]) (recs_cell hk hR)
      (fun u hu => by obtain ⟨y, _, hy⟩ := List.mem_flatMap.1 hu; exact h1 y u hy) h63 hbytes hbase (fun v' w' q1 q2 _ => h v' w' q1 q2)
theorem blk_type_ne {w : World} {g h : Nat} {T U : TypeId} {cs ds : Array Value} (a : Blk w g T cs) (b : Blk w h U ds) (n : T ≠ U) : g ≠ h := by
  rintro rfl
  unfold Blk at a b
  rw [a] at b
  injection b with b
  injection b with b1 b2
  exact n b2
theorem own_blk {w : World} {B k n g : Nat} {T : TypeId} {v : Value} {xs : List Value} (h : w.ownsRow B T k v n xs) (hg : v.ownBlock = some g) : ∃ cur, Blk w g T cur := by
  rcases h.2 with ⟨rfl, _⟩ | ⟨g', cap, cur, rfl, _, hb, _⟩
  · cases hg
  · cases hg
    exact ⟨cur, hb⟩
theorem own_apart {w : World} {B C k l n m : Nat} {T U : TypeId} {v u : Value} {xs ys : List Value} (h : w.ownsRow B T k v n xs) (g : w.ownsRow C U l u m ys) (hT : T ≠ U) : v.ownBlock = none ∨ v.ownBlock ≠ u.ownBlock := by
  cases hv : v.ownBlock with
  | none => exact .inl rfl
  | some q =>
    right
    intro e
    obtain ⟨c1, b1⟩ := own_blk h hv
    obtain ⟨c2, b2⟩ := own_blk g e.symm
    exact blk_type_ne b1 b2 hT rfl
theorem own_blk_far {w w' : World} {B k n b : Nat} {T U : TypeId} {v : Value} {xs : List Value} {cs : Array Value} (h : w.ownsRow B T k v n xs) (hg : w.grownBy w' v.ownBlock) (hb : Blk w b U cs) (hT : U ≠ T) : Blk w' b U cs :=
  hb.grown hg (fun e => by
    obtain ⟨c1, b1⟩ := own_blk h e.symm
    exact blk_type_ne hb b1 hT rfl)
end Go.Proofs.YtdjkhagdckhijaaDoor
