/- Texts that serve many laws, one behind the other. -/
import Derived.Lib.AtoiTie
import Derived.Lib.IndexMore
import Derived.Lib.ItoaLen
import Derived.Lib.ItoaMem
import Derived.Lib.Split
import Derived.Lib.SplitLaws
import Derived.Shelf.Small.Strs
import Derived.Shelf.Strconv.Atoi
import Derived.Shelf.Strconv.ErrVarAll
import Derived.Shelf.Strconv.Itoa3
import Derived.Shelf.Strings.BuilderK
import Derived.Shelf.Strings.Shaped
import Derived.Test.YtldlandcjegikaaGreatDoorHK1
set_option linter.unusedVariables false
set_option linter.unusedSimpArgs false
namespace Go.Proofs.YtldlandcjegikaaGreatDoor

section
open Go.Lib
def atoV (l : List UInt8) : Int := match atoiAll l with
 | .ok v => v
 | .range => atoiSat l
 | _ => 0
def atoOk (l : List UInt8) : Bool := match atoiAll l with
 | .ok _ => true
 | _ => false
def longN (l : List UInt8) : Int := if atoV l < 0 then (l.length : Int) - 1 else (l.length : Int)
def sameL (a b : List UInt8) : Bool := decide (a = b)
def shortN (l : List UInt8) : Bool := decide (longN l ≤ 13)
def backN (l : List UInt8) : Bool := sameL (itoa (atoV l)) l
def numOk (l : List UInt8) : Bool := atoOk l && shortN l && backN l
def dots : List UInt8 := [46, 46]
def printL (lo hi : Int) : List UInt8 := itoa lo ++ dots ++ itoa hi
def printS (lo hi : Int) : List UInt8 := if rightB lo hi = true then printL lo hi else []
theorem atoV_in (l : List UInt8) : -9223372036854775808 ≤ atoV l ∧ atoV l ≤ 9223372036854775807 := by
 unfold atoV
 split
 ·rename_i v h
  exact atoiAll_bounds h
 ·unfold atoiSat
  split <;> omega
 ·omega
/- the digits -/
theorem decDigits_ne (u : Nat) : decDigits u ≠ [] := by
 rw [decDigits]
 split <;> simp
theorem digit_at (d : Nat) (h : d < 10) : digitVal (UInt8.ofNat (48 + d)) = some d := by
 have hc : d = 0 ∨ d = 1 ∨ d = 2 ∨ d = 3 ∨ d = 4 ∨ d = 5 ∨ d = 6 ∨ d = 7 ∨ d = 8 ∨ d = 9 := by omega
 rcases hc with rfl | rfl | rfl | rfl | rfl | rfl | rfl | rfl | rfl | rfl <;> decide
theorem decFrom_append (l r : List UInt8) : ∀ acc, decFrom acc (l ++ r) = (decFrom acc l).bind fun n => decFrom n r := by
 induction l with
 | nil => intro acc; rfl
 | cons b l ih =>
  intro acc
  simp only [List.cons_append, decFrom]
  cases digitVal b with
  | none => rfl
  | some d => exact ih _
theorem decFrom_digits (u : Nat) : decFrom 0 (decDigits u) = some u := by
 induction u using Nat.strongRecOn with
 | _ u ih =>
  rw [decDigits]
  split
  ·rename_i h
   simp only [decFrom, digit_at u h]
   rw [Nat.zero_mul, Nat.zero_add]
  ·rename_i h
   rw [decFrom_append, ih (u / 10) (by omega)]
   simp only [Option.bind_some, decFrom, digit_at (u % 10) (Nat.mod_lt _ (by decide))]
   rw [show u / 10 * 10 + u % 10 = u by omega]
theorem decNat_digits (u : Nat) : decNat (decDigits u) = some u := by
 unfold decNat
 rw [if_neg (by simp [decDigits_ne]), decFrom_digits]
theorem digits_range (u : Nat) : ∀ c ∈ decDigits u, 48 ≤ c.toNat ∧ c.toNat ≤ 57 := by
 induction u using Nat.strongRecOn with
 | _ u ih =>
  have one : ∀ d, d < 10 → 48 ≤ (UInt8.ofNat (48 + d)).toNat ∧ (UInt8.ofNat (48 + d)).toNat ≤ 57 := by
   intro d h
   have e : (UInt8.ofNat (48 + d)).toNat = 48 + d := by simp; omega
   omega
  intro c hc
  rw [decDigits] at hc
  split at hc
  ·rename_i h
   rw [List.mem_singleton] at hc
   subst hc
   exact one u h
  ·rename_i h
   rcases List.mem_append.1 hc with h1 | h1
   ·exact ih (u / 10) (by omega) c h1
   ·rw [List.mem_singleton] at h1
    subst h1
    exact one (u % 10) (Nat.mod_lt _ (by decide))
theorem atoi_itoa (n : Int) : atoi (itoa n) = some n := by
 unfold itoa
 split
 ·rename_i h
  have e : atoi (45 :: decDigits n.natAbs) = (decNat (decDigits n.natAbs)).map fun (m : Nat) => -(m : Int) := rfl
  rw [e, decNat_digits]
  simp only [Option.map_some]
  congr 1
  omega
 ·rename_i h
  have hne := decDigits_ne n.toNat
  have hr := digits_range n.toNat
  have hd := decNat_digits n.toNat
  cases hl : decDigits n.toNat with
  | nil => exact absurd hl hne
  | cons c r =>
   rw [hl] at hr hd
   have hc := hr c (List.mem_cons_self ..)
   have h1 : (c == 45) = false := by
    rw [beq_eq_false_iff_ne]
    rintro rfl
    exact absurd hc (by decide)
   have h2 : (c == 43) = false := by
    rw [beq_eq_false_iff_ne]
    rintro rfl
    exact absurd hc (by decide)
   have e : atoi (c :: r) = if (c == 45) = true then (decNat r).map (fun (m : Nat) => -(m : Int)) else if (c == 43) = true then (decNat r).map (fun (m : Nat) => (m : Int)) else (decNat (c :: r)).map (fun (m : Nat) => (m : Int)) := rfl
   rw [e, h1, h2, if_neg (by decide), if_neg (by decide), hd]
   simp only [Option.map_some]
   congr 1
   omega
theorem nDigits_13 (u : Nat) (h : u ≤ 1000000000000) : nDigits u ≤ 13 := by
 rcases Nat.eq_zero_or_pos u with rfl | h1
 ·rw [nDigits_small (by omega)]; omega
 ·rcases Nat.lt_or_ge 13 (nDigits u) with h2 | h2
  ·exfalso
   have key : ∀ k v, nDigits v = k + 1 → 1 ≤ v → 10 ^ k ≤ v := by
    intro k
    induction k with
    | zero => intro v _ hv; simpa using hv
    | succ k ih =>
     intro v hv _
     by_cases hs : v < 10
     ·rw [nDigits_small hs] at hv; omega
     ·rw [nDigits_big hs] at hv
      have h3 := ih (v / 10) (by omega) (by omega)
      rw [Nat.pow_succ]
      omega
   have h4 := key (nDigits u - 1) u (by omega) h1
   have h5 : 10 ^ 13 ≤ 10 ^ (nDigits u - 1) := Nat.pow_le_pow_right (by decide) (by omega)
   have h6 : (10 : Nat) ^ 13 = 10000000000000 := by decide
   omega
  ·exact h2
/- the cut -/
/- what was written is read as it was, and the other way round -/
theorem numOk_back {l : List UInt8} (h : numOk l = true) : itoa (atoV l) = l := by
 unfold numOk backN sameL at h
 simp only [Bool.and_eq_true, decide_eq_true_eq] at h
 exact h.2
end


section
open Go.Lib
def cutF (c : UInt8) (p : List (List UInt8) × List UInt8) (x : UInt8) : List (List UInt8) × List UInt8 := if x = c then (p.1 ++ [p.2], []) else (p.1, p.2 ++ [x])
def cutD (c : UInt8) (l : List UInt8) : List (List UInt8) × List UInt8 := l.foldl (cutF c) ([], [])
def piecesL (c : UInt8) (l : List UInt8) : List (List UInt8) := (cutD c l).1 ++ [(cutD c l).2]
def linesOf (l : List UInt8) : List (List UInt8) := if (cutD 10 l).2 = [] then (cutD 10 l).1 else (cutD 10 l).1 ++ [(cutD 10 l).2]
theorem cutD_snoc (c : UInt8) (l : List UInt8) (x : UInt8) : cutD c (l ++ [x]) = cutF c (cutD c l) x := by unfold cutD; rw [List.foldl_append]; rfl
theorem cutF_hit (c : UInt8) (p : List (List UInt8) × List UInt8) : cutF c p c = (p.1 ++ [p.2], []) := if_pos rfl
theorem cutF_miss {c x : UInt8} (h : ¬ x = c) (p : List (List UInt8) × List UInt8) : cutF c p x = (p.1, p.2 ++ [x]) := if_neg h
theorem cutF_from (c : UInt8) (d : List (List UInt8)) (k : List UInt8) : ∀ l : List UInt8, l.foldl (cutF c) (d, k) = (d ++ (l.foldl (cutF c) ([], k)).1, (l.foldl (cutF c) ([], k)).2) := by
 intro l
 induction l generalizing d k with
 | nil => simp
 | cons x l ih =>
  rw [List.foldl_cons, List.foldl_cons]
  by_cases h : x = c
  ·subst h
   rw [cutF_hit, cutF_hit, ih (d ++ [k]) [], ih ([] ++ [k]) []]
   simp
  ·rw [cutF_miss h, cutF_miss h, ih d (k ++ [x])]
theorem cutF_none (c : UInt8) : ∀ (l k : List UInt8), c ∉ l → l.foldl (cutF c) ([], k) = ([], k ++ l) := by
 intro l
 induction l with
 | nil => intro k _; simp
 | cons x l ih =>
  intro k h
  have h1 : ¬ x = c := fun e => h (by rw [e]; exact List.mem_cons_self ..)
  simp only [List.foldl_cons]
  rw [show cutF c ([], k) x = ([], k ++ [x]) by unfold cutF; rw [if_neg h1], ih _ (fun e => h (List.mem_cons_of_mem _ e))]
  simp
theorem cutD_none {c : UInt8} {l : List UInt8} (h : c ∉ l) : cutD c l = ([], l) := by unfold cutD; rw [cutF_none c l [] h]; rfl
theorem cutD_cons {c : UInt8} {a : List UInt8} (h : c ∉ a) (r : List UInt8) : cutD c (a ++ c :: r) = (a :: (cutD c r).1, (cutD c r).2) := by
 unfold cutD
 rw [List.foldl_append, cutF_none c a [] h, List.foldl_cons]
 rw [show cutF c ([], [] ++ a) c = ([a], []) by unfold cutF; rw [if_pos rfl]; simp, cutF_from]
 rfl
theorem piecesL_none {c : UInt8} {l : List UInt8} (h : c ∉ l) : piecesL c l = [l] := by unfold piecesL; rw [cutD_none h]; rfl
theorem piecesL_cons {c : UInt8} {a : List UInt8} (h : c ∉ a) (r : List UInt8) : piecesL c (a ++ c :: r) = a :: piecesL c r := by unfold piecesL; rw [cutD_cons h]; rfl
theorem linesOf_nil : linesOf [] = [] := rfl
theorem linesOf_last {a : List UInt8} (h : (10 : UInt8) ∉ a) (hne : a ≠ []) : linesOf a = [a] := by unfold linesOf; rw [cutD_none h, if_neg hne]; rfl
theorem linesOf_cons {a : List UInt8} (h : (10 : UInt8) ∉ a) (r : List UInt8) : linesOf (a ++ 10 :: r) = a :: linesOf r := by
 unfold linesOf
 rw [cutD_cons h]
 by_cases e : (cutD 10 r).2 = []
 ·rw [if_pos e, if_pos e]
 ·rw [if_neg e, if_neg e]; rfl
theorem cut_by (c : UInt8) (l : List UInt8) : c ∉ l ∨ ∃ a r, c ∉ a ∧ l = a ++ c :: r := by
 induction l with
 | nil => exact .inl (by simp)
 | cons x l ih =>
  by_cases h : x = c
  ·exact .inr ⟨[], l, by simp, by rw [h]; rfl⟩
  ·rcases ih with k | ⟨a, r, k, e⟩
   ·exact .inl (by simp [Ne.symm h, k])
   ·exact .inr ⟨x :: a, r, by simp [Ne.symm h, k], by rw [e]; rfl⟩
def num7B (l : List UInt8) : Bool := numOk l && (decide (0 ≤ atoV l) && decide (l.length ≤ 7))
def wGo : List UInt8 := [103, 111]
def wAsk : List UInt8 := [97, 115, 107]
def wDeliver : List UInt8 := [100, 101, 108, 105, 118, 101, 114]
def wLose : List UInt8 := [108, 111, 115, 101]
def wRepeat : List UInt8 := [114, 101, 112, 101, 97, 116]
def wShow : List UInt8 := [115, 104, 111, 119]
def wDate : List UInt8 := [100, 97, 116, 101]
def wOffset : List UInt8 := [111, 102, 102, 115, 101, 116]
def wWide : List UInt8 := [119, 105, 100, 101]
def wordK (x : List UInt8) : Nat := if x = wGo then 1 else if x = wAsk then 2 else if x = wDeliver then 3 else if x = wLose then 4 else if x = wRepeat then 5 else if x = wShow then 6 else if x = wDate then 7 else if x = wOffset then 8 else if x = wWide then 9 else 0
def actN (k : Nat) : Int := if k ≤ 5 then k else 0
def wantN (k : Nat) : Int := if k = 0 then -1 else if k = 9 then 0 else if k = 2 ∨ k = 8 then 2 else 1
theorem wordK_lt (x : List UInt8) : wordK x < 10 := by unfold wordK; (repeat' split) <;> omega
theorem wordK_eq (x : List UInt8) : decide (x = wGo) = decide (wordK x = 1) ∧ decide (x = wAsk) = decide (wordK x = 2) ∧ decide (x = wDeliver) = decide (wordK x = 3) ∧ decide (x = wLose) = decide (wordK x = 4) ∧ decide (x = wRepeat) = decide (wordK x = 5) ∧
  decide (x = wShow) = decide (wordK x = 6) ∧ decide (x = wDate) = decide (wordK x = 7) ∧ decide (x = wOffset) = decide (wordK x = 8) ∧ decide (x = wWide) = decide (wordK x = 9) := by
 by_cases h1 : x = wGo
 ·subst h1; decide
 by_cases h2 : x = wAsk
 ·subst h2; decide
 by_cases h3 : x = wDeliver
 ·subst h3; decide
 by_cases h4 : x = wLose
 ·subst h4; decide
 by_cases h5 : x = wRepeat
 ·subst h5; decide
 by_cases h6 : x = wShow
 ·subst h6; decide
 by_cases h7 : x = wDate
 ·subst h7; decide
 by_cases h8 : x = wOffset
 ·subst h8; decide
 by_cases h9 : x = wWide
 ·subst h9; decide
 have e : wordK x = 0 := by unfold wordK; rw [if_neg h1, if_neg h2, if_neg h3, if_neg h4, if_neg h5, if_neg h6, if_neg h7, if_neg h8, if_neg h9]
 rw [e]
 simp [h1, h2, h3, h4, h5, h6, h7, h8, h9]
inductive Cmd where
 | bad
 | act (k a b : Int)
 | show (i : Int)
 | wide
 | offset (a b : Int)
 | date (n : Int)
def cmdW (k : Nat) (v : List (List UInt8)) : Cmd :=
 if wantN k = (v.length : Int) ∧ v.all num7B = true then
  (if k ≤ 5 then .act k (atoV (v.getD 0 [])) (if k = 2 then atoV (v.getD 1 []) else 0)
   else if k = 6 then .show (atoV (v.getD 0 []))
   else if k = 7 then .date (atoV (v.getD 0 []))
   else if k = 8 then .offset (atoV (v.getD 0 [])) (atoV (v.getD 1 []))
   else .wide)
 else .bad
def cmdOf (l : List UInt8) : Cmd := cmdW (wordK ((piecesL 32 l).headD [])) (piecesL 32 l).tail
theorem nDigits_pow (u : Nat) : u < 10 ^ nDigits u := by
 induction u using Nat.strongRecOn with
 | _ u ih =>
  by_cases h : u < 10
  ·rw [nDigits_small h]; omega
  ·have h1 := ih (u / 10) (by omega)
   rw [nDigits_big h, Nat.pow_succ]
   omega
theorem num7_back {l : List UInt8} (h : num7B l = true) : Lib.itoa (atoV l) = l := by
 unfold num7B numOk backN sameL at h
 simp only [Bool.and_eq_true, decide_eq_true_eq] at h
 exact h.1.2
theorem num7_bd {l : List UInt8} (h : num7B l = true) : 0 ≤ atoV l ∧ atoV l ≤ 9999999 := by
 have hb := num7_back h
 unfold num7B at h
 simp only [Bool.and_eq_true, decide_eq_true_eq] at h
 obtain ⟨h1, h2, h3⟩ := h
 refine ⟨h2, ?_⟩
 have hl : (itoa (atoV l)).length = nDigits (atoV l).toNat := by
  unfold itoa
  rw [if_neg (by omega), decDigits_length]
 rw [hb] at hl
 have h4 := nDigits_pow (atoV l).toNat
 have h5 : 10 ^ nDigits (atoV l).toNat ≤ 10 ^ 7 := Nat.pow_le_pow_right (by decide) (by omega)
 have h6 : (10 : Nat) ^ 7 = 10000000 := by decide
 omega
end


section
open Go.Lib
theorem occ_one (l : List UInt8) (c : UInt8) (j : Nat) : occAt l [c] j = true ↔ l[j]? = some c := by
 unfold occAt
 rw [show l[j]? = (l.drop j)[0]? by rw [List.getElem?_drop]; rfl]
 cases l.drop j with
 | nil => simp
 | cons x r => simp [List.isPrefixOf]; exact eq_comm
theorem index_one_none {c : UInt8} {l : List UInt8} (h : c ∉ l) : index l [c] = -1 := by
 rcases index_spec l [c] with ⟨h1, _⟩ | ⟨i, _, _, h3, _⟩
 ·exact h1
 ·exact absurd (List.mem_of_getElem? ((occ_one l c i).1 h3)) h
theorem index_one_at {c : UInt8} {a : List UInt8} (h : c ∉ a) (r : List UInt8) : index (a ++ c :: r) [c] = a.length := by
 refine index_first (i := a.length) (by simp) ((occ_one _ c _).2 (by simp)) (fun j hj => ?_)
 cases hb : occAt (a ++ c :: r) [c] j with
 | false => rfl
 | true =>
  have := (occ_one _ c j).1 hb
  rw [List.getElem?_append_left hj] at this
  exact absurd (List.mem_of_getElem? this) h
theorem split_pieces (c : UInt8) : ∀ (n : Nat) (l : List UInt8), l.length ≤ n → splitK [c] 0 (count l [c]) l = piecesL c l := by
 intro n
 induction n with
 | zero =>
  intro l hl
  obtain rfl := List.length_eq_zero_iff.1 (Nat.le_zero.1 hl)
  rw [count_miss (index_one_none (by simp)), piecesL_none (by simp)]
  rfl
 | succ n ih =>
  intro l hl
  rcases cut_by c l with h | ⟨a, r, h, rfl⟩
  ·rw [count_miss (index_one_none h), piecesL_none h]
   rfl
  ·have e := index_one_at h r
   have e2 : (a ++ c :: r).drop (a.length + [c].length) = r := by simp
   rw [count_hit (by simp) e, e2, piecesL_cons h, ← ih r (by simp at hl; omega), Nat.add_comm, splitK, e, if_neg (by simp)]
   simp
theorem words_of (s : ByteArray) : (splitB ⟨#[32]⟩ 0 (countB s ⟨#[32]⟩) s).map (·.data.toList) = piecesL 32 s.data.toList := by
 rw [splitB_data]
 exact split_pieces 32 _ _ (Nat.le_refl _)
theorem words_len (s : ByteArray) : countB s ⟨#[32]⟩ + 1 = (piecesL 32 s.data.toList).length := by
 rw [← words_of, List.length_map, splitB_all ⟨#[32]⟩ (by decide) 0 _ s rfl]
theorem byte_none {l : List UInt8} {c : UInt8} (h : indexByte l c = -1) : c ∉ l := fun hm => by
 obtain ⟨k, hk, e⟩ := List.mem_iff_getElem.1 hm
 exact indexByte_none h k (by rw [List.getElem?_eq_getElem hk, e])
theorem byte_some {l : List UInt8} {c : UInt8} {o : Nat} (h : indexByte l c = o) : c ∉ l.take o ∧ l = l.take o ++ c :: l.drop (o + 1) ∧ o < l.length := by
 obtain ⟨h1, h2⟩ := indexByte_some h
 obtain ⟨ho, e⟩ := List.getElem?_eq_some_iff.1 h1
 refine ⟨fun hm => ?_, ?_, ho⟩
 ·obtain ⟨k, hk, e2⟩ := List.mem_iff_getElem.1 hm
  rw [List.length_take] at hk
  refine h2 k (by omega) ?_
  rw [List.getElem_take] at e2
  rw [List.getElem?_eq_getElem (by omega), e2]
 ·rw [← e, List.getElem_cons_drop, List.take_append_drop]
end


section
open Go.RowKit Go.Shelf
def cutL_ren : Go.Shelf.Ren := ⟨fun | 145 => 28 | 220 => 51 | 219 => 87 | 217 => 58 | 225 => 117 | 224 => 118 | 267 => 119 | 266 => 91 | 314 => 147 | n => n, fun | 9 => 9 | 4 => 4 | 59 => 85 | 3 => 3 | 5 => 5 | 46 => 211 | 146 => 234 | 51 => 233 | n => n, fun | 1 => 2 | n => n⟩
theorem cutL : Go.Proofs.LaysM.n145 Tryz.prog cutL_ren := {
 mixed := by kernel_rfl
 f145 := Tryz.func28.trans (congrArg some kRf)
 f217 := Tryz.func58.trans (congrArg some kRf)
 f219 := Tryz.func87.trans (congrArg some kRf)
 f220 := Tryz.func51.trans (congrArg some kRf)
 f224 := Tryz.func118.trans (congrArg some kRf)
 f225 := Tryz.func117.trans (congrArg some kRf)
 f266 := Tryz.func91.trans (congrArg some kRf)
 f267 := Tryz.func119.trans (congrArg some kRf)
 f314 := Tryz.func147.trans (congrArg some kRf)
 t3 := Tryz.underlying3
 a3 := Tryz.isAgg3
 z3 := Tryz.sizeOf3
 v3 := Tryz.zeroValue3
 t4 := Tryz.underlying4
 a4 := Tryz.isAgg4
 z4 := Tryz.sizeOf4
 v4 := Tryz.zeroValue4
 t5 := Tryz.underlying5
 a5 := Tryz.isAgg5
 z5 := Tryz.sizeOf5
 v5 := Tryz.zeroValue5
 t9 := Tryz.underlying9
 a9 := Tryz.isAgg9
 z9 := Tryz.sizeOf9
 v9 := Tryz.zeroValue9
 t46 := Tryz.underlying211
 a46 := Tryz.isAgg211
 z46 := Tryz.sizeOf211
 v46 := Tryz.zeroValue211
 t51 := Tryz.underlying233
 a51 := Tryz.isAgg233
 z51 := Tryz.sizeOf233
 v51 := Tryz.zeroValue233
 t59 := Tryz.underlying85
 a59 := Tryz.isAgg85
 z59 := Tryz.sizeOf85
 v59 := Tryz.zeroValue85
 t146 := Tryz.underlying234
 a146 := Tryz.isAgg234
 z146 := Tryz.sizeOf234
 v146 := Tryz.zeroValue234
 g1 := by kernel_rfl
 i3 := by kernel_rfl
 i4 := by kernel_rfl
 i5 := by kernel_rfl
 i9 := by kernel_rfl
 i46 := by kernel_rfl
 i51 := by kernel_rfl
 i59 := by kernel_rfl
 i146 := by kernel_rfl
 m1 := by kernel_rfl
 s1_3 := fun w h => Go.Proofs.cell_of_shapedOpen_int (zero := #[.int .i64 0]) (t := 3) h (of_decide_eq_true kRf) kRf rfl kRf kRf Tryz.underlying3 }

def itoaL_ren : Go.Shelf.Ren := ⟨fun | 171 => 53 | 243 => 90 | 246 => 125 | 283 => 151 | 284 => 152 | 285 => 153 | 286 => 154 | 129 => 172 | 317 => 171 | 318 => 173 | 319 => 174 | 320 => 175 | 337 => 180 | 338 => 181 | n => n, fun | 3 => 3 | 9 => 9 | 2 => 2 | 4 => 4 | 171 => 242 | 0 => 0 | 53 => 236 | 37 => 48 | 5 => 5 | 173 => 245 | 212 => 264 | 51 => 233 | 20 => 20 | 213 => 265 | 46 => 211 | 232 => 273 | 233 => 274 | n => n, fun | 17 => 6 | 18 => 9 | 19 => 10 | n => n⟩
theorem itoaL : Go.Proofs.LaysM.n171 Tryz.prog itoaL_ren := {
 mixed := by kernel_rfl
 f129 := Tryz.func172.trans (congrArg some kRf)
 f171 := Tryz.func53.trans (congrArg some kRf)
 f243 := Tryz.func90.trans (congrArg some kRf)
 f246 := Tryz.func125.trans (congrArg some kRf)
 f283 := Tryz.func151.trans (congrArg some kRf)
 f284 := Tryz.func152.trans (congrArg some kRf)
 f285 := Tryz.func153.trans (congrArg some kRf)
 f286 := Tryz.func154.trans (congrArg some kRf)
 f317 := Tryz.func171.trans (congrArg some kRf)
 f318 := Tryz.func173.trans (congrArg some kRf)
 f319 := Tryz.func174.trans (congrArg some kRf)
 f320 := Tryz.func175.trans (congrArg some kRf)
 f337 := Tryz.func180.trans (congrArg some kRf)
 f338 := Tryz.func181.trans (congrArg some kRf)
 t0 := Tryz.underlying0
 a0 := Tryz.isAgg0
 z0 := Tryz.sizeOf0
 v0 := Tryz.zeroValue0
 t2 := Tryz.underlying2
 a2 := Tryz.isAgg2
 z2 := Tryz.sizeOf2
 v2 := Tryz.zeroValue2
 t3 := Tryz.underlying3
 a3 := Tryz.isAgg3
 z3 := Tryz.sizeOf3
 v3 := Tryz.zeroValue3
 t4 := Tryz.underlying4
 a4 := Tryz.isAgg4
 z4 := Tryz.sizeOf4
 v4 := Tryz.zeroValue4
 t5 := Tryz.underlying5
 a5 := Tryz.isAgg5
 z5 := Tryz.sizeOf5
 v5 := Tryz.zeroValue5
 t9 := Tryz.underlying9
 a9 := Tryz.isAgg9
 z9 := Tryz.sizeOf9
 v9 := Tryz.zeroValue9
 t20 := Tryz.underlying20
 a20 := Tryz.isAgg20
 z20 := Tryz.sizeOf20
 v20 := Tryz.zeroValue20
 t37 := Tryz.underlying48
 a37 := Tryz.isAgg48
 z37 := Tryz.sizeOf48
 v37 := Tryz.zeroValue48
 t46 := Tryz.underlying211
 a46 := Tryz.isAgg211
 z46 := Tryz.sizeOf211
 v46 := Tryz.zeroValue211
 t51 := Tryz.underlying233
 a51 := Tryz.isAgg233
 z51 := Tryz.sizeOf233
 v51 := Tryz.zeroValue233
 t53 := Tryz.underlying236
 a53 := Tryz.isAgg236
 z53 := Tryz.sizeOf236
 v53 := Tryz.zeroValue236
 t171 := Tryz.underlying242
 a171 := Tryz.isAgg242
 z171 := Tryz.sizeOf242
 v171 := Tryz.zeroValue242
 t173 := Tryz.underlying245
 a173 := Tryz.isAgg245
 z173 := Tryz.sizeOf245
 v173 := Tryz.zeroValue245
 t212 := Tryz.underlying264
 a212 := Tryz.isAgg264
 z212 := Tryz.sizeOf264
 v212 := Tryz.zeroValue264
 t213 := Tryz.underlying265
 a213 := Tryz.isAgg265
 z213 := Tryz.sizeOf265
 t232 := Tryz.underlying273
 a232 := Tryz.isAgg273
 z232 := Tryz.sizeOf273
 v232 := Tryz.zeroValue273
 t233 := Tryz.underlying274
 a233 := Tryz.isAgg274
 z233 := Tryz.sizeOf274
 v233 := Tryz.zeroValue274
 g17 := by kernel_rfl
 g18 := by kernel_rfl
 g19 := by kernel_rfl
 i0 := by kernel_rfl
 i2 := by kernel_rfl
 i3 := by kernel_rfl
 i4 := by kernel_rfl
 i5 := by kernel_rfl
 i9 := by kernel_rfl
 i20 := by kernel_rfl
 i37 := by kernel_rfl
 i46 := by kernel_rfl
 i51 := by kernel_rfl
 i53 := by kernel_rfl
 i171 := by kernel_rfl
 i173 := by kernel_rfl
 i212 := by kernel_rfl
 i232 := by kernel_rfl
 i233 := by kernel_rfl
 m17 := by kernel_rfl
 m18 := by kernel_rfl
 m19 := by kernel_rfl }

def atoiL_ren : Go.Shelf.Ren := ⟨fun | 172 => 52 | 244 => 88 | 245 => 89 | 247 => 120 | 279 => 121 | 280 => 122 | 281 => 123 | 282 => 124 | 287 => 148 | 316 => 149 | 171 => 53 | 205 => 150 | 321 => 169 | 322 => 170 | 243 => 90 | 246 => 125 | 283 => 151 | 284 => 152 | 285 => 153 | 286 => 154 | 129 => 172 | 317 => 171 | 318 => 173 | 319 => 174 | 320 => 175 | 337 => 180 | 338 => 181 | n => n, fun | 9 => 9 | 3 => 3 | 75 => 36 | 76 => 54 | 4 => 4 | 5 => 5 | 167 => 212 | 37 => 48 | 0 => 0 | 85 => 213 | 2 => 2 | 168 => 215 | 53 => 236 | 175 => 237 | 46 => 211 | 210 => 240 | 127 => 108 | 145 => 262 | 143 => 260 | 21 => 21 | 171 => 242 | 173 => 245 | 212 => 264 | 51 => 233 | 20 => 20 | 213 => 265 | 232 => 273 | 233 => 274 | 80 => 57 | n => n, fun | 15 => 3 | 16 => 4 | 17 => 6 | 18 => 9 | 19 => 10 | n => n⟩
theorem atoiL : Go.Proofs.LaysC.n172 Tryz.prog atoiL_ren := {
 mixed := by kernel_rfl
 f129 := Tryz.func172.trans (congrArg some kRf)
 f171 := Tryz.func53.trans (congrArg some kRf)
 f172 := Tryz.func52.trans (congrArg some kRf)
 f205 := Tryz.func150.trans (congrArg some kRf)
 f243 := Tryz.func90.trans (congrArg some kRf)
 f244 := Tryz.func88.trans (congrArg some kRf)
 f245 := Tryz.func89.trans (congrArg some kRf)
 f246 := Tryz.func125.trans (congrArg some kRf)
 f247 := Tryz.func120.trans (congrArg some kRf)
 f279 := Tryz.func121.trans (congrArg some kRf)
 f280 := Tryz.func122.trans (congrArg some kRf)
 f281 := Tryz.func123.trans (congrArg some kRf)
 f282 := Tryz.func124.trans (congrArg some kRf)
 f283 := Tryz.func151.trans (congrArg some kRf)
 f284 := Tryz.func152.trans (congrArg some kRf)
 f285 := Tryz.func153.trans (congrArg some kRf)
 f286 := Tryz.func154.trans (congrArg some kRf)
 f287 := Tryz.func148.trans (congrArg some kRf)
 f316 := Tryz.func149.trans (congrArg some kRf)
 f317 := Tryz.func171.trans (congrArg some kRf)
 f318 := Tryz.func173.trans (congrArg some kRf)
 f319 := Tryz.func174.trans (congrArg some kRf)
 f320 := Tryz.func175.trans (congrArg some kRf)
 f321 := Tryz.func169.trans (congrArg some kRf)
 f322 := Tryz.func170.trans (congrArg some kRf)
 f337 := Tryz.func180.trans (congrArg some kRf)
 f338 := Tryz.func181.trans (congrArg some kRf)
 t0 := Tryz.underlying0
 a0 := Tryz.isAgg0
 z0 := Tryz.sizeOf0
 v0 := Tryz.zeroValue0
 t2 := Tryz.underlying2
 a2 := Tryz.isAgg2
 z2 := Tryz.sizeOf2
 v2 := Tryz.zeroValue2
 t3 := Tryz.underlying3
 a3 := Tryz.isAgg3
 z3 := Tryz.sizeOf3
 v3 := Tryz.zeroValue3
 t4 := Tryz.underlying4
 a4 := Tryz.isAgg4
 z4 := Tryz.sizeOf4
 v4 := Tryz.zeroValue4
 t5 := Tryz.underlying5
 a5 := Tryz.isAgg5
 z5 := Tryz.sizeOf5
 v5 := Tryz.zeroValue5
 t9 := Tryz.underlying9
 a9 := Tryz.isAgg9
 z9 := Tryz.sizeOf9
 v9 := Tryz.zeroValue9
 t20 := Tryz.underlying20
 a20 := Tryz.isAgg20
 z20 := Tryz.sizeOf20
 v20 := Tryz.zeroValue20
 t21 := Tryz.underlying21
 a21 := Tryz.isAgg21
 z21 := Tryz.sizeOf21
 v21 := Tryz.zeroValue21
 t37 := Tryz.underlying48
 a37 := Tryz.isAgg48
 z37 := Tryz.sizeOf48
 v37 := Tryz.zeroValue48
 t46 := Tryz.underlying211
 a46 := Tryz.isAgg211
 z46 := Tryz.sizeOf211
 v46 := Tryz.zeroValue211
 t51 := Tryz.underlying233
 a51 := Tryz.isAgg233
 z51 := Tryz.sizeOf233
 v51 := Tryz.zeroValue233
 t53 := Tryz.underlying236
 a53 := Tryz.isAgg236
 z53 := Tryz.sizeOf236
 v53 := Tryz.zeroValue236
 t75 := Tryz.underlying36
 a75 := Tryz.isAgg36
 z75 := Tryz.sizeOf36
 v75 := Tryz.zeroValue36
 t76 := Tryz.underlying54
 a76 := Tryz.isAgg54
 z76 := Tryz.sizeOf54
 v76 := Tryz.zeroValue54
 t85 := Tryz.underlying213
 a85 := Tryz.isAgg213
 z85 := Tryz.sizeOf213
 v85 := Tryz.zeroValue213
 t127 := Tryz.underlying108
 a127 := Tryz.isAgg108
 z127 := Tryz.sizeOf108
 v127 := Tryz.zeroValue108
 t143 := Tryz.underlying260
 a143 := Tryz.isAgg260
 z143 := Tryz.sizeOf260
 v143 := Tryz.zeroValue260
 t145 := Tryz.underlying262
 a145 := Tryz.isAgg262
 z145 := Tryz.sizeOf262
 v145 := Tryz.zeroValue262
 t167 := Tryz.underlying212
 a167 := Tryz.isAgg212
 z167 := Tryz.sizeOf212
 v167 := Tryz.zeroValue212
 t168 := Tryz.underlying215
 a168 := Tryz.isAgg215
 z168 := Tryz.sizeOf215
 v168 := Tryz.zeroValue215
 t171 := Tryz.underlying242
 a171 := Tryz.isAgg242
 z171 := Tryz.sizeOf242
 v171 := Tryz.zeroValue242
 t173 := Tryz.underlying245
 a173 := Tryz.isAgg245
 z173 := Tryz.sizeOf245
 v173 := Tryz.zeroValue245
 t175 := Tryz.underlying237
 a175 := Tryz.isAgg237
 z175 := Tryz.sizeOf237
 v175 := Tryz.zeroValue237
 t210 := Tryz.underlying240
 a210 := Tryz.isAgg240
 z210 := Tryz.sizeOf240
 v210 := Tryz.zeroValue240
 t212 := Tryz.underlying264
 a212 := Tryz.isAgg264
 z212 := Tryz.sizeOf264
 v212 := Tryz.zeroValue264
 t213 := Tryz.underlying265
 a213 := Tryz.isAgg265
 z213 := Tryz.sizeOf265
 t232 := Tryz.underlying273
 a232 := Tryz.isAgg273
 z232 := Tryz.sizeOf273
 v232 := Tryz.zeroValue273
 t233 := Tryz.underlying274
 a233 := Tryz.isAgg274
 z233 := Tryz.sizeOf274
 v233 := Tryz.zeroValue274
 g15 := by kernel_rfl
 g16 := by kernel_rfl
 g17 := by kernel_rfl
 g18 := by kernel_rfl
 g19 := by kernel_rfl
 t80 := Tryz.underlying57
 a80 := Tryz.isAgg57
 z80 := Tryz.sizeOf57
 v80 := Tryz.zeroValue57
 i0 := by kernel_rfl
 i2 := by kernel_rfl
 i3 := by kernel_rfl
 i4 := by kernel_rfl
 i5 := by kernel_rfl
 i9 := by kernel_rfl
 i20 := by kernel_rfl
 i21 := by kernel_rfl
 i37 := by kernel_rfl
 i46 := by kernel_rfl
 i51 := by kernel_rfl
 i53 := by kernel_rfl
 i75 := by kernel_rfl
 i76 := by kernel_rfl
 i80 := by kernel_rfl
 i85 := by kernel_rfl
 i127 := by kernel_rfl
 i143 := by kernel_rfl
 i145 := by kernel_rfl
 i167 := by kernel_rfl
 i168 := by kernel_rfl
 i171 := by kernel_rfl
 i173 := by kernel_rfl
 i175 := by kernel_rfl
 i210 := by kernel_rfl
 i212 := by kernel_rfl
 i232 := by kernel_rfl
 i233 := by kernel_rfl
 m15 := by kernel_rfl
 m16 := by kernel_rfl
 m17 := by kernel_rfl
 m18 := by kernel_rfl
 m19 := by kernel_rfl
 c0 := by kernel_rfl
 c2 := by kernel_rfl
 c3 := by kernel_rfl
 c4 := by kernel_rfl
 c5 := by kernel_rfl
 c9 := by kernel_rfl
 c20 := by kernel_rfl
 c21 := by kernel_rfl
 c37 := by kernel_rfl
 c46 := by kernel_rfl
 c51 := by kernel_rfl
 c53 := by kernel_rfl
 c75 := by kernel_rfl
 c76 := by kernel_rfl
 c80 := by kernel_rfl
 c85 := by kernel_rfl
 c127 := by kernel_rfl
 c143 := by kernel_rfl
 c145 := by kernel_rfl
 c167 := by kernel_rfl
 c168 := by kernel_rfl
 c171 := by kernel_rfl
 c173 := by kernel_rfl
 c175 := by kernel_rfl
 c210 := by kernel_rfl
 c212 := by kernel_rfl
 c213 := by kernel_rfl
 c232 := by kernel_rfl
 c233 := by kernel_rfl }

end


section
open Go.Lib
def digR (c : UInt8) : Bool := decide (48 ≤ c.toNat) && decide (c.toNat ≤ 57)
def valR (l : List UInt8) : Int := l.foldl (fun n c => n * 10 + ((c.toNat : Int) - 48)) 0
def allR (l : List UInt8) : Bool := l.all digR
theorem valR_snoc (l : List UInt8) (c : UInt8) : valR (l ++ [c]) = valR l * 10 + ((c.toNat : Int) - 48) := by simp [valR]
theorem allR_snoc (l : List UInt8) (c : UInt8) : allR (l ++ [c]) = (allR l && digR c) := by simp [allR]
theorem take_snoc_r {l : List UInt8} {k : Nat} (h : k < l.length) : l.take (k + 1) = l.take k ++ [l.getD k 0] := by
 rw [List.take_succ_eq_append_getElem h, List.getD_eq_getElem?_getD, List.getElem?_eq_getElem h]; rfl
theorem allR_take {l : List UInt8} {k : Nat} (h : allR (l.take k) = false) : allR l = false := by
 cases hb : allR l with
 | false => rfl
 | true =>
  have : allR (l.take k) = true := by
   unfold allR at hb ⊢
   rw [List.all_eq_true] at hb ⊢
   exact fun x hx => hb x (List.mem_of_mem_take hx)
  rw [this] at h; cases h
theorem digR_iff (c : UInt8) : digR c = true ↔ 48 ≤ (c.toNat : Int) ∧ (c.toNat : Int) ≤ 57 := by unfold digR; simp; omega
def lessR (l : List UInt8) : Bool := decide (1 < l.length) && decide (((l.getD 0 0).toNat : Int) = 45)
def bodyR (l : List UInt8) : List UInt8 := if lessR l = true then l.drop 1 else l
def zeroR (less : Bool) (d : List UInt8) : Bool := decide (((d.getD 0 0).toNat : Int) = 48) && (decide (1 < d.length) || less)
def goodR (less : Bool) (d : List UInt8) : Bool := !(decide (d.length = 0) || (decide (13 < d.length) || zeroR less d)) && allR d
def signR (less : Bool) (n : Int) : Int := if less = true then -n else n
def numRB (l : List UInt8) : Bool := goodR (lessR l) (bodyR l)
def numRV (l : List UInt8) : Int := if numRB l = true then signR (lessR l) (valR (bodyR l)) else 0
theorem ato_itoa_len (n : Int) (hl : (if n < 0 then ((itoa n).length : Int) - 1 else ((itoa n).length : Int)) ≤ 13) : atoiAll (itoa n) = .ok n := by
 rw [atoiAll_short _ (by split at hl <;> omega), atoi_itoa]
 rfl
theorem atoV_itoa_len (n : Int) (hl : (if n < 0 then ((itoa n).length : Int) - 1 else ((itoa n).length : Int)) ≤ 13) : atoV (itoa n) = n := by
 unfold atoV
 rw [ato_itoa_len n hl]
theorem numOk_itoa_len (n : Int) (hl : (if n < 0 then ((itoa n).length : Int) - 1 else ((itoa n).length : Int)) ≤ 13) : numOk (itoa n) = true := by
 unfold numOk atoOk shortN backN sameL longN
 rw [ato_itoa_len n hl, atoV_itoa_len n hl]
 simp [hl]
theorem dig_nat {c : UInt8} (h : digR c = true) : 48 ≤ c.toNat ∧ c.toNat ≤ 57 := by
 unfold digR at h
 simpa using h
theorem dig_back {c : UInt8} {k : Nat} (hk : c.toNat = 48 + k) (h : k < 10) : UInt8.ofNat (48 + k) = c := by
 apply UInt8.toNat_inj.1
 have e : (UInt8.ofNat (48 + k)).toNat = 48 + k := by simp; omega
 omega
theorem digits_take (d : List UInt8) (hb : allR d = true) (h0 : 0 < d.length) (hz : ¬ (((d.getD 0 0).toNat : Int) = 48 ∧ 1 < d.length)) :
  ∀ k, k < d.length → 0 ≤ valR (d.take (k + 1)) ∧ decDigits (valR (d.take (k + 1))).toNat = d.take (k + 1) := by
 have hdig : ∀ k, k < d.length → digR (d.getD k 0) = true := by
  intro k hk
  rw [allR, List.all_eq_true] at hb
  rw [List.getD_eq_getElem?_getD, List.getElem?_eq_getElem hk]
  exact hb _ (List.getElem_mem ..)
 intro k
 induction k with
 | zero =>
  intro hk
  obtain ⟨g1, g2⟩ := dig_nat (hdig 0 hk)
  rw [take_snoc_r hk, valR_snoc]
  simp only [List.take_zero, List.nil_append]
  have e : valR [] * 10 + (((d.getD 0 0).toNat : Int) - 48) = (((d.getD 0 0).toNat - 48 : Nat) : Int) := by
   show (0 : Int) * 10 + _ = _
   omega
  rw [e]
  refine ⟨by omega, ?_⟩
  rw [Int.toNat_natCast, decDigits_one (by omega)]
  rw [dig_back (c := d.getD 0 0) (by omega) (by omega)]
 | succ k ih =>
  intro hk
  obtain ⟨i1, i2⟩ := ih (by omega)
  obtain ⟨g1, g2⟩ := dig_nat (hdig (k + 1) hk)
  rw [take_snoc_r hk, valR_snoc]
  obtain ⟨u, eu⟩ : ∃ u : Nat, valR (d.take (k + 1)) = u := ⟨_, (Int.toNat_of_nonneg i1).symm⟩
  rw [eu, Int.toNat_natCast] at i2
  rw [eu]
  obtain ⟨c, ec⟩ : ∃ c : Nat, (d.getD (k + 1) 0).toNat = 48 + c := ⟨(d.getD (k + 1) 0).toNat - 48, by omega⟩
  have hu : u ≠ 0 := by
   rintro rfl
   rw [decDigits_one (by omega)] at i2
   apply hz
   refine ⟨?_, by omega⟩
   have h1 : (d.take (k + 1)).getD 0 0 = d.getD 0 0 := by
    rw [List.getD_eq_getElem?_getD, List.getD_eq_getElem?_getD, List.getElem?_take, if_pos (by omega)]
   rw [← h1, ← i2]
   rfl
  have e : (u : Int) * 10 + (((d.getD (k + 1) 0).toNat : Int) - 48) = ((u * 10 + c : Nat) : Int) := by omega
  rw [e]
  refine ⟨by omega, ?_⟩
  rw [Int.toNat_natCast, decDigits, dif_neg (by omega), show (u * 10 + c) / 10 = u by omega, show (u * 10 + c) % 10 = c by omega, i2, dig_back ec (by omega)]
theorem digits_all (d : List UInt8) (hb : allR d = true) (h0 : 0 < d.length) (hz : ¬ (((d.getD 0 0).toNat : Int) = 48 ∧ 1 < d.length)) : ∃ u : Nat, valR d = u ∧ decDigits u = d := by
 obtain ⟨h1, h2⟩ := digits_take d hb h0 hz (d.length - 1) (by omega)
 rw [show d.length - 1 + 1 = d.length by omega, List.take_length] at h1 h2
 exact ⟨(valR d).toNat, (Int.toNat_of_nonneg h1).symm, h2⟩
theorem allR_digits (u : Nat) : allR (decDigits u) = true := by
 rw [allR, List.all_eq_true]
 intro c hc
 have h := digits_range u c hc
 unfold digR
 simp
 exact h
theorem valR_digits (u : Nat) : valR (decDigits u) = u := by
 induction u using Nat.strongRecOn with
 | _ u ih =>
  rw [decDigits]
  split
  ·rename_i h
   have e : (UInt8.ofNat (48 + u)).toNat = 48 + u := by simp; omega
   show (0 : Int) * 10 + (((UInt8.ofNat (48 + u)).toNat : Int) - 48) = u
   omega
  ·rename_i h
   have e : (UInt8.ofNat (48 + u % 10)).toNat = 48 + u % 10 := by simp; omega
   rw [valR_snoc, ih (u / 10) (by omega)]
   omega
theorem digits_len (u : Nat) : 0 < (decDigits u).length := List.length_pos_iff.2 (decDigits_ne u)
theorem digits_head (u : Nat) (h : (((decDigits u).getD 0 0).toNat : Int) = 48) : u = 0 := by
 induction u using Nat.strongRecOn with
 | _ u ih =>
  rw [decDigits] at h
  split at h
  ·rename_i h9
   have e : (UInt8.ofNat (48 + u)).toNat = 48 + u := by simp; omega
   have h2 : ((UInt8.ofNat (48 + u)).toNat : Int) = 48 := h
   omega
  ·rename_i h9
   have hl := digits_len (u / 10)
   have e : (decDigits (u / 10) ++ [UInt8.ofNat (48 + u % 10)]).getD 0 0 = (decDigits (u / 10)).getD 0 0 := by
    rw [List.getD_eq_getElem?_getD, List.getD_eq_getElem?_getD, List.getElem?_append_left hl]
   rw [e] at h
   have := ih (u / 10) (by omega) h
   omega
theorem digits_first (u : Nat) : 48 ≤ ((decDigits u).getD 0 0).toNat ∧ ((decDigits u).getD 0 0).toNat ≤ 57 := by
 have hl := digits_len u
 rw [List.getD_eq_getElem?_getD, List.getElem?_eq_getElem hl]
 exact digits_range u _ (List.getElem_mem ..)
theorem itoa_pos (u : Nat) : itoa (u : Int) = decDigits u := itoa_nonneg u
theorem num_of (l : List UInt8) (h : numOk l = true) : numRB l = true ∧ numRV l = atoV l := by
 have hb := numOk_back h
 have hs : longN l ≤ 13 := by
  unfold numOk shortN at h
  simp only [Bool.and_eq_true, decide_eq_true_eq] at h
  exact h.1.2
 unfold longN at hs
 obtain ⟨v, ev⟩ : ∃ v, atoV l = v := ⟨_, rfl⟩
 rw [ev] at hb hs ⊢
 suffices hk : numRB l = true ∧ signR (lessR l) (valR (bodyR l)) = v by
  refine ⟨hk.1, ?_⟩
  unfold numRV
  rw [if_pos hk.1, hk.2]
 by_cases hn : v < 0
 ·obtain ⟨u, rfl⟩ : ∃ u : Nat, v = -(u : Int) := ⟨v.natAbs, by omega⟩
  rw [itoa_neg u (by omega)] at hb
  subst hb
  rw [if_pos hn, List.length_cons] at hs
  have hl := digits_len u
  have e1 : lessR (45 :: decDigits u) = true := by
   unfold lessR
   rw [decide_eq_true (by rw [List.length_cons]; omega)]
   rfl
  have e2 : bodyR (45 :: decDigits u) = decDigits u := by unfold bodyR; rw [if_pos e1]; rfl
  unfold numRB
  rw [e2, e1]
  refine ⟨?_, by unfold signR; rw [if_pos rfl, valR_digits]⟩
  unfold goodR zeroR
  have h3 : ¬ (((decDigits u).getD 0 0).toNat : Int) = 48 := fun h => by have := digits_head u h; omega
  rw [allR_digits, decide_eq_false h3, decide_eq_false (show ¬ (decDigits u).length = 0 by omega), decide_eq_false (show ¬ 13 < (decDigits u).length by omega)]
  rfl
 ·obtain ⟨u, rfl⟩ : ∃ u : Nat, v = (u : Int) := ⟨v.toNat, by omega⟩
  rw [itoa_pos u] at hb
  subst hb
  rw [if_neg hn] at hs
  have hl := digits_len u
  have hf := digits_first u
  have e1 : lessR (decDigits u) = false := by
   unfold lessR
   rw [decide_eq_false (p := (((decDigits u).getD 0 0).toNat : Int) = 45) (by omega), Bool.and_false]
  have e2 : bodyR (decDigits u) = decDigits u := by unfold bodyR; rw [e1]; rfl
  unfold numRB
  rw [e2, e1]
  refine ⟨?_, by unfold signR; rw [valR_digits]; rfl⟩
  unfold goodR zeroR
  rw [allR_digits, decide_eq_false (show ¬ (decDigits u).length = 0 by omega), decide_eq_false (show ¬ 13 < (decDigits u).length by omega)]
  by_cases h3 : (((decDigits u).getD 0 0).toNat : Int) = 48
  ·obtain rfl := digits_head u h3
   rw [decDigits_one (by omega)]
   rfl
  ·rw [decide_eq_false h3]
   rfl
theorem num_back (l : List UInt8) (h : numRB l = true) : numOk l = true := by
 unfold numRB goodR zeroR at h
 simp only [Bool.and_eq_true, Bool.not_eq_true', Bool.or_eq_false_iff, decide_eq_false_iff_not] at h
 obtain ⟨⟨h1, h2, h3⟩, h4⟩ := h
 have hz : ¬ ((((bodyR l).getD 0 0).toNat : Int) = 48 ∧ 1 < (bodyR l).length) := by
  rintro ⟨k1, k2⟩
  rw [decide_eq_true k1, decide_eq_true k2] at h3
  cases h3
 obtain ⟨u, e1, e2⟩ := digits_all (bodyR l) h4 (by omega) hz
 cases hl : lessR l with
 | true =>
  rw [hl] at h3
  have hb : bodyR l = l.drop 1 := by unfold bodyR; rw [if_pos hl]
  unfold lessR at hl
  simp only [Bool.and_eq_true, decide_eq_true_eq] at hl
  obtain ⟨k1, k2⟩ := hl
  have hu : u ≠ 0 := by
   rintro rfl
   rw [decDigits_one (by omega)] at e2
   rw [← e2] at h3
   cases h3
  have el : l = 45 :: decDigits u := by
   rw [e2, hb]
   cases l with
   | nil => simp at k1
   | cons c r =>
    have : c = 45 := UInt8.toNat_inj.1 (by
     have k3 : (c.toNat : Int) = 45 := k2
     show c.toNat = 45
     omega)
    rw [this]
    rfl
  rw [el, ← itoa_neg u (by omega)]
  refine numOk_itoa_len _ ?_
  rw [if_pos (by omega), itoa_neg u (by omega), List.length_cons, e2]
  omega
 | false =>
  have hb : bodyR l = l := by unfold bodyR; rw [hl]; rfl
  rw [hb] at e2 h2
  rw [← e2, ← itoa_pos]
  refine numOk_itoa_len _ ?_
  rw [if_neg (by omega), itoa_pos, e2]
  omega
theorem num_same (l : List UInt8) : numRB l = numOk l := by
 cases h : numOk l with
 | true => exact (num_of l h).1
 | false =>
  cases h2 : numRB l with
  | false => rfl
  | true => rw [num_back l h2] at h; cases h
end


section
open Go.RowKit Go.Shelf
def writeL_ren : Go.Shelf.Ren := ⟨fun | 166 => 16 | 240 => 36 | 276 => 59 | n => n, fun | 70 => 47 | 9 => 9 | 3 => 3 | 75 => 36 | 0 => 0 | 72 => 50 | 37 => 48 | 4 => 4 | 164 => 139 | 80 => 57 | 5 => 5 | n => n, fun | n => n⟩
theorem writeL : Go.Proofs.Lays.n166 Tryz.prog writeL_ren := {
 mixed := by kernel_rfl
 f166 := Tryz.func16.trans (congrArg some kRf)
 f240 := Tryz.func36.trans (congrArg some kRf)
 f276 := Tryz.func59.trans (congrArg some kRf)
 t0 := Tryz.underlying0
 a0 := Tryz.isAgg0
 z0 := Tryz.sizeOf0
 v0 := Tryz.zeroValue0
 t3 := Tryz.underlying3
 a3 := Tryz.isAgg3
 z3 := Tryz.sizeOf3
 v3 := Tryz.zeroValue3
 t4 := Tryz.underlying4
 a4 := Tryz.isAgg4
 z4 := Tryz.sizeOf4
 v4 := Tryz.zeroValue4
 t9 := Tryz.underlying9
 a9 := Tryz.isAgg9
 z9 := Tryz.sizeOf9
 v9 := Tryz.zeroValue9
 t20 := Tryz.underlying20
 a20 := Tryz.isAgg20
 z20 := Tryz.sizeOf20
 v20 := Tryz.zeroValue20
 t37 := Tryz.underlying48
 a37 := Tryz.isAgg48
 z37 := Tryz.sizeOf48
 v37 := Tryz.zeroValue48
 t70 := Tryz.underlying47
 a70 := Tryz.isAgg47
 z70 := Tryz.sizeOf47
 v70 := Tryz.zeroValue47
 t72 := Tryz.underlying50
 a72 := Tryz.isAgg50
 z72 := Tryz.sizeOf50
 v72 := Tryz.zeroValue50
 t75 := Tryz.underlying36
 a75 := Tryz.isAgg36
 z75 := Tryz.sizeOf36
 v75 := Tryz.zeroValue36
 t164 := Tryz.underlying139
 a164 := Tryz.isAgg139
 z164 := Tryz.sizeOf139
 v164 := Tryz.zeroValue139 }

def stringL_ren : Go.Shelf.Ren := ⟨fun | 169 => 19 | n => n, fun | 70 => 47 | 9 => 9 | 0 => 0 | 72 => 50 | 37 => 48 | 127 => 108 | 3 => 3 | 5 => 5 | n => n, fun | n => n⟩
theorem stringL : Go.Proofs.Lays.n169 Tryz.prog stringL_ren := {
 mixed := by kernel_rfl
 f169 := Tryz.func19.trans (congrArg some kRf)
 t0 := Tryz.underlying0
 a0 := Tryz.isAgg0
 z0 := Tryz.sizeOf0
 v0 := Tryz.zeroValue0
 t3 := Tryz.underlying3
 a3 := Tryz.isAgg3
 z3 := Tryz.sizeOf3
 v3 := Tryz.zeroValue3
 t9 := Tryz.underlying9
 a9 := Tryz.isAgg9
 z9 := Tryz.sizeOf9
 v9 := Tryz.zeroValue9
 t37 := Tryz.underlying48
 a37 := Tryz.isAgg48
 z37 := Tryz.sizeOf48
 v37 := Tryz.zeroValue48
 t70 := Tryz.underlying47
 a70 := Tryz.isAgg47
 z70 := Tryz.sizeOf47
 v70 := Tryz.zeroValue47
 t72 := Tryz.underlying50
 a72 := Tryz.isAgg50
 z72 := Tryz.sizeOf50
 v72 := Tryz.zeroValue50
 t127 := Tryz.underlying108
 a127 := Tryz.isAgg108
 z127 := Tryz.sizeOf108
 v127 := Tryz.zeroValue108 }

def byteL_ren : Go.Shelf.Ren := ⟨fun | 137 => 35 | 217 => 58 | 266 => 91 | n => n, fun | 9 => 9 | 5 => 5 | 3 => 3 | n => n, fun | n => n⟩
theorem byteL : Go.Proofs.Lays.n137 Tryz.prog byteL_ren := {
 mixed := by kernel_rfl
 f137 := Tryz.func35.trans (congrArg some kRf)
 f217 := Tryz.func58.trans (congrArg some kRf)
 f266 := Tryz.func91.trans (congrArg some kRf)
 t3 := Tryz.underlying3
 a3 := Tryz.isAgg3
 z3 := Tryz.sizeOf3
 v3 := Tryz.zeroValue3
 t5 := Tryz.underlying5
 a5 := Tryz.isAgg5
 z5 := Tryz.sizeOf5
 v5 := Tryz.zeroValue5
 t9 := Tryz.underlying9
 a9 := Tryz.isAgg9
 z9 := Tryz.sizeOf9
 v9 := Tryz.zeroValue9 }

theorem writeX : Builder.Extra Tryz.prog writeL_ren where
 sizeBuilder := by kernel_rfl
 liesBuilder := by kernel_rfl
 t5 := Tryz.underlying5
 a5 := Tryz.isAgg5
 z5 := Tryz.sizeOf5
 v5 := Tryz.zeroValue5
 infoByte := by kernel_rfl
 cellsByte := by kernel_rfl
 sizeByte := by kernel_rfl
 neB5 := by decide
theorem stringX : Builder.Extra Tryz.prog stringL_ren where
 sizeBuilder := by kernel_rfl
 liesBuilder := by kernel_rfl
 t5 := Tryz.underlying5
 a5 := Tryz.isAgg5
 z5 := Tryz.sizeOf5
 v5 := Tryz.zeroValue5
 infoByte := by kernel_rfl
 cellsByte := by kernel_rfl
 sizeByte := by kernel_rfl
 neB5 := by decide
theorem bld_write (B b : Nat) (bs : List Value) (s : ByteArray) (w : World) (h : Lib.IsBuilderF 50 5 B b bs w) (hlen : bs.length + s.size ≤ 140737488355328) (hBw : B ≤ w.heap.size) :
  Calls Tryz.prog 16 #[.pointer (some ⟨b, 0, none⟩), .string s] w fun e w' => e = .returned (.tuple #[.int .i64 s.size, .nilIface]) ∧ (Lib.BuilderAtF 50 5 B b (.pointer (some ⟨b, 0, none⟩)) (bs ++ Lib.strCells s) w' ∧ Below B w w' ∧ Lib.OthersKept 5 (some b) w w') :=
 Any.Builder_WriteString_k { writeL with } writeX B b bs s w h hlen hBw
theorem bld_string (B b : Nat) (l : List UInt8) (w : World) (h : Lib.IsBuilderF 50 5 B b (Lib.byteCells l) w) (hBw : B ≤ w.heap.size) :
  Calls Tryz.prog 19 #[.pointer (some ⟨b, 0, none⟩)] w fun e w' => e = .returned (.string ⟨l.toArray⟩) ∧ Below B w w' ∧ Lib.OthersKept 5 (some b) w w' := by
 refine (Any.Builder_String_any_k { stringL with } stringX B b l w h hBw).mono ?_
 rintro e w' ⟨rfl, h2⟩
 exact ⟨rfl, h2.2.1, h2.2.2⟩
theorem index_byte (s : ByteArray) (w : World) : Calls Tryz.prog 35 #[.string s, .int .u8 10] w fun e w' => e = .returned (.int .i64 (Lib.indexByte s.data.toList 10)) ∧ w' = w := by
 exact Any.strings_IndexByte { byteL with } s 10 w
end
end Go.Proofs.YtldlandcjegikaaGreatDoor
