/- The spans of a tree, by the program, walked. -/
import Derived.Test.YtfjpfkejajgkbaaDoorHTree
import Derived.Test.YtfjpfkejajgkbaaDoorHMat2
import Derived.Test.YtfjpfkejajgkbaaDoorHG1
namespace Go.Proofs.YtfjpfkejajgkbaaDoor
open Go.RowKit
set_option linter.unusedVariables false
set_option linter.unusedSimpArgs false
/-- the spans of a tree, along its row. -/
def spSum (l : List REdge) (by_ : List Int) (out : List RSpan) (i : Int) : RSpan :=
  let e := l.getD (by_.getD i.toNat 0).toNat ⟨0, 0, 0, 0⟩
  let f := out.getD (if e.a = i then e.b else e.a).toNat ⟨0, 0⟩
  if e.a = i then ⟨f.lo + -e.hi, f.hi + -e.lo⟩ else ⟨f.lo + e.lo, f.hi + e.hi⟩
def spGo (l : List REdge) (by_ : List Int) : List Int → List RSpan → List Bool → Option (List RSpan × List Bool)
  | [], out, inn => some (out, inn)
  | i :: t, out, inn => if rightB (spSum l by_ out i).lo (spSum l by_ out i).hi = true then spGo l by_ t (out.set i.toNat (spSum l by_ out i)) (inn.set i.toNat true) else none
def spD (N R : Nat) (l : List REdge) : Option (List RSpan × List Bool) :=
  spGo l (tFin l N R).by_ (tFin l N R).row.tail (List.replicate N ⟨0, 0⟩) ((List.replicate N false).set R true)
def spOut (n : Int) (l : List REdge) (root : Int) : List RSpan := if treeC n l root = 0 then (match spD n.toNat root.toNat l with | some (o, _) => o | none => []) else []
def spInn (n : Int) (l : List REdge) (root : Int) : List Bool := if treeC n l root = 0 then (match spD n.toNat root.toNat l with | some (_, b) => b | none => []) else []
def spErr (n : Int) (l : List REdge) (root : Int) : Int := if treeC n l root = 0 then (match spD n.toNat root.toNat l with | some _ => 0 | none => 1) else treeC n l root
theorem spGo_at {l : List REdge} {by_ row : List Int} {k : Nat} {i : Int} (h : row[k]? = some i) (out : List RSpan) (inn : List Bool) :
    spGo l by_ (row.drop k) out inn = if rightB (spSum l by_ out i).lo (spSum l by_ out i).hi = true then spGo l by_ (row.drop (k + 1)) (out.set i.toNat (spSum l by_ out i)) (inn.set i.toNat true) else none := by
  obtain ⟨hk, he⟩ := List.getElem?_eq_some_iff.1 h
  rw [List.drop_eq_getElem_cons hk, he]
  rfl
theorem spGo_end {l : List REdge} {by_ row : List Int} {k : Nat} (h : row.length ≤ k) (out : List RSpan) (inn : List Bool) : spGo l by_ (row.drop k) out inn = some (out, inn) := by
  rw [List.drop_eq_nil_of_le h]; rfl
/-- what Spans answers. -/
def SpansP (w w' : World) (e : Ending) (o : List RSpan) (b : List Bool) (c : Int) : Prop :=
  ∃ A n k B m d, e = .returned (.tuple #[.slice A n k, .slice B m d, errV c]) ∧ IsRecs w' RSpan.cells RSpan.ok 2 A n k o ∧ IsBools w' B m d b ∧ Below w.heap.size w w'
theorem span_Turned (lo hi : Int) (w : World) (h1 : -1000000000000 ≤ lo) (h2 : lo ≤ 1000000000000) (h3 : -1000000000000 ≤ hi) (h4 : hi ≤ 1000000000000) :
    Calls Tryd.prog 55 #[.agg #[.int .i64 lo, .int .i64 hi]] w fun e w' => e = .returned (.agg #[.int .i64 (-hi), .int .i64 (-lo)]) ∧ Below w.heap.size w w' := by
  go_enter Tryd.func55, Tryd.ntmps55
  go_wp2_with fail
  refine bodyPost_ret (v := .agg #[.int .i64 (-hi), .int .i64 (-lo)]) (by simp [results, Tryd.results55, go_sem]) rfl ⟨rfl, ?_⟩
  exact (by repeat (first | with_reducible exact Below.refl _ _ | (with_reducible refine Below.alloc ?_ (by first | omega | (simp; done) | (simp; omega)) _) | (with_reducible refine Below.setCell ?_ (by first | omega | (simp; done) | (simp; omega)) _) | (with_reducible refine Below.drew ?_) | (with_reducible refine below_drewN ?_ _) | (with_reducible assumption) | (with_reducible refine bel_step (by with_reducible assumption) ?_ (by first | omega | (simp; done) | (simp; omega)))))
structure SpOk (N : Nat) (out : List RSpan) (inn : List Bool) : Prop where
  o : out.length = N
  b : inn.length = N
  r : ∀ z ∈ out, rightB z.lo z.hi = true
theorem SpOk.set {N : Nat} {out : List RSpan} {inn : List Bool} (h : SpOk N out inn) (i : Nat) {z : RSpan} (hz : rightB z.lo z.hi = true) : SpOk N (out.set i z) (inn.set i true) :=
  ⟨by simp [h.o], by simp [h.b], fun y hy => by
    rcases List.mem_or_eq_of_mem_set hy with hy | rfl
    · exact h.r y hy
    · exact hz⟩
theorem spSum_eq {l : List REdge} {by_ : List Int} {out : List RSpan} {x kk : Nat} {z : REdge} {f : Nat} {s : RSpan} (h1 : by_[x]? = some (kk : Int)) (h2 : l[kk]? = some z) (h3 : out[f]? = some s) (hf : (if z.a = (x : Int) then z.b else z.a) = (f : Int)) :
    spSum l by_ out x = if z.a = (x : Int) then ⟨s.lo + -z.hi, s.hi + -z.lo⟩ else ⟨s.lo + z.lo, s.hi + z.hi⟩ := by
  unfold spSum
  simp only [Int.toNat_natCast, List.getD, h1, h2, Option.getD_some, hf, h3]
theorem addS_ok {a b c d : Int} (h1 : rightB a b = true) (h2 : rightB c d = true) : (rightB (a + c) (b + d) = true → addS a b c d = ⟨a + c, b + d, 0⟩) ∧ (rightB (a + c) (b + d) = false → addS a b c d = ⟨0, 0, 1⟩) := by
  unfold addS whole
  rw [if_pos ⟨h1, h2⟩]
  refine ⟨fun h => by rw [if_pos h], fun h => by rw [if_neg (by rw [h]; simp)]⟩
set_option maxRecDepth 100000 in
set_option maxHeartbeats 8000000 in
theorem tree_Spans_ok (N R : Nat) (A : Option Addr) (n c : Nat) (zs : List REdge) (w : World) (hz : IsRecs w REdge.cells REdge.ok 4 A n c zs) (hc : edgesC N zs = 0) (hR : R < N) :
    Calls Tryd.prog 24 #[.int .i64 N, .slice A n c, .int .i64 R] w fun e w' => (∀ o b, spD N R zs = some (o, b) → SpansP w w' e o b 0) ∧ (spD N R zs = none → SpansP w w' e [] [] 1) := by
  have HZ := Lib.hid hz
  obtain ⟨c4, c5, c6, c7⟩ := edgesC_0 hc
  simp only [Int.toNat_natCast] at c7
  have hm1 := hz.2.1
  have hm2 := hz.2.2.1
  have hln := hz.1
  unfold maxLen at hm2
  have ht : treeC N zs R = 0 := by unfold treeC; rw [if_pos hc, if_pos (nodeB_iff.2 (by omega))]
  have C := Lib.hid (tree_ready N A n c zs R w hz)
  rw [ht] at C
  have C7 := Lib.hid c7
  have HL := Lib.hid hln
  have HTK := Lib.hid (TOk.st (l := zs) (n := N) (root := R) hR c7 N)
  have C2 := Lib.hid (fun w' (hb : Below w.heap.size w w') => tree_walk N R A n c zs w' (hz.below hb) (by omega) (by omega) hR (by omega) c7)
  clear hz hc c7 hln ht
  have mk3 := make_spans N (by omega)
  have mk4 := run_make_row' (P := Tryd.prog) 68 4 (.bool false) 1 Tryd.underlying68 infoB rfl .i64 .i64 N (by omega) (by omega)
  rw [made_b] at mk4
  obtain ⟨T, eT⟩ : ∃ T, tFin zs N R = T := ⟨_, rfl⟩
  have HT := Lib.hid (show TOk zs N R T from by rw [← eT]; exact HTK.out)
  have HD := Lib.hid (show spD N R zs = spGo zs T.by_ (T.row.drop 1) (List.replicate N ⟨0, 0⟩) ((List.replicate N false).set R true) from by rw [← eT, List.drop_one]; rfl)
  rw [eT] at C2
  clear eT HTK
  go_enter Tryd.func24, Tryd.ntmps24
  go_wp2_with fail
  refine C.out.mono ?_
  rintro e w1 ⟨rfl, hb1⟩
  have HB1 := Lib.hid hb1
  clear hb1
  go_wp2_with fail
  refine (C2.out _ HB1.out).mono ?_
  rintro e w2 ⟨A1, n1, d1, A2, n2, d2, rfl, i1, i2, hb2⟩
  have HB2 := Lib.hid (HB1.out.trans (hb2.mono HB1.out.size))
  have I1 := Lib.hid i1
  have I2 := Lib.hid i2
  have e1 : n1 = N := by rw [← i1.1, HT.out.bl]
  subst e1
  have p1 := i1.2.1
  have p2 := i1.2.2.1
  have p3 := i2.2.1
  have p4 := i2.2.2.1
  have p5 := i2.1
  have p6 := HT.out.pos
  have p7 := HT.out.len
  unfold maxLen at p2 p4
  clear i1 i2 hb2 C C2
  go_upto_region 5 with fail
  go_cut [12, 13] (fun u v wx => ∃ g1 g2, u = .slice (some ⟨g1, 0, none⟩) n1 n1 ∧ v = .slice (some ⟨g2, 0, none⟩) n1 n1 ∧ Blk wx g1 41 (SCells (List.replicate n1 ⟨0, 0⟩)) ∧ Blk wx g2 4 (BCells (List.replicate n1 false)) ∧
    w2.heap.size ≤ g1 ∧ w2.heap.size ≤ g2 ∧ Below w2.heap.size w2 wx)
  case first =>
    go_region
    all_goals
      go_wp2_with fail
      go_meet
      case rel =>
        refine ⟨_, _, rfl, rfl, ?_, ?_, by omega, by omega, (by repeat (first | with_reducible exact Below.refl _ _ | (with_reducible refine Below.alloc ?_ (by first | omega | (simp; done) | (simp; omega)) _) | (with_reducible refine Below.setCell ?_ (by first | omega | (simp; done) | (simp; omega)) _) | (with_reducible refine Below.drew ?_) | (with_reducible refine below_drewN ?_ _) | (with_reducible assumption) | (with_reducible refine bel_step (by with_reducible assumption) ?_ (by first | omega | (simp; done) | (simp; omega)))))⟩
        · first
          | exact ((Blk.new w2 _ _).alloc _).drewN 1
          | exact (Blk.newAt2 w2 _ _ _).drewN 1
        · first
          | exact ((Blk.new w2 _ _).alloc _).drewN 1
          | exact (Blk.newAt2 w2 _ _ _).drewN 1
  case rest =>
    obtain ⟨g1, g2, rfl, rfl, hk1, hk2, hg1, hg2, hbc⟩ := hcut
    have xc := hk2.bat (i := R) (v := false) (by rw [List.getElem?_replicate, if_pos hR])
    have xf := hk2.fz R
    have xl := hk2.lt
    have HK1 := Lib.hid (hk1.far (p := ⟨g2, R, none⟩) (fun q => hk1.type_ne hk2 (by decide) q) (.bool true))
    have HK2 := Lib.hid (hk2.bset R true)
    have HBC := Lib.hid (hbc.setCell (p := ⟨g2, R, none⟩) (by simp; exact hg2) (.bool true))
    have g12 : g1 ≠ g2 := hk1.type_ne hk2 (by decide)
    have kr : (R : Int) < (n1 : Int) := by omega
    clear hk1 hk2 hbc mk3 mk4
    obtain ⟨b2, o2, rfl, q1, q2⟩ := I2.out.2.2.2.2 (by omega)
    have Q2 := Lib.hid q2
    clear q2
    by_cases hcap : d2 = 1
    · have hn1 : n2 = 1 := by omega
      go_wp2_with fail
      clear xc xf
      go_loopw [45] (fun kv wx => ∃ (k : Nat) (out : List RSpan) (inn : List Bool), kv = .int .i64 k ∧ k ≤ n2 - 1 ∧ Blk wx g1 41 (SCells out) ∧ Blk wx g2 4 (BCells inn) ∧ SpOk n1 out inn ∧
        spGo zs T.by_ (T.row.drop (k + 1)) out inn = spD n1 R zs ∧ Below w2.heap.size w2 wx) (fun kv _ => n2 - (intOf kv).toNat)
      case atStart => exact ⟨0, _, _, rfl, by omega, HK1.out, HK2.out, ⟨by simp, by simp, fun z hz => by rw [(List.mem_replicate.1 hz).2]; rfl⟩, by rw [HD.out], HBC.out⟩
      case round =>
        obtain ⟨k, out, inn, rfl, hk, hb1, hb2, hS, hG, hB⟩ := hrel
        have HK1 := Lib.hid hb1
        have HK2 := Lib.hid hb2
        have HS := Lib.hid hS
        have HG := Lib.hid hG
        have HB := Lib.hid hB
        have hzw := hB.size
        have g1l := hb1.lt
        have g2l := hb2.lt
        clear hb1 hb2 hS hG hB
        by_cases d0 : k < n2 - 1
        · (skip)
          omega
        · obtain rfl : k = n2 - 1 := by omega
          have hend : spD n1 R zs = some (out, inn) := by
            rw [← HG.out, show n2 - 1 + 1 = T.row.length by omega]
            exact spGo_end (Nat.le_refl _) _ _
          have HE := Lib.hid hend
          clear hend
          go_wp2_with fail
          refine bodyPost_ret (v := .tuple #[.slice (some ⟨g1, 0, none⟩) n1 n1, .slice (some ⟨g2, 0, none⟩) n1 n1, .nilIface]) (by simp [results, Tryd.results24, go_sem]) rfl ?_
          refine ⟨fun o b h => ?_, fun h => by rw [HE.out] at h; cases h⟩
          rw [HE.out] at h
          cases h
          exact ⟨some ⟨g1, 0, none⟩, n1, n1, some ⟨g2, 0, none⟩, n1, n1, rfl, HK1.out.spans HS.out.o (by unfold maxLen; omega) (fun z hz => by have := rightB_iff.1 (HS.out.r z hz); unfold RSpan.ok i64B; omega), HK2.out.bools HS.out.b (by unfold maxLen; omega), HB2.out.trans (HB.out.mono HB2.out.size)⟩

    · have hcap' : 1 < d2 := by omega
      go_wp2_with fail
      clear xc xf
      go_loopw [45] (fun kv wx => ∃ (k : Nat) (out : List RSpan) (inn : List Bool), kv = .int .i64 k ∧ k ≤ n2 - 1 ∧ Blk wx g1 41 (SCells out) ∧ Blk wx g2 4 (BCells inn) ∧ SpOk n1 out inn ∧
        spGo zs T.by_ (T.row.drop (k + 1)) out inn = spD n1 R zs ∧ Below w2.heap.size w2 wx) (fun kv _ => n2 - (intOf kv).toNat)
      case atStart => exact ⟨0, _, _, rfl, by omega, HK1.out, HK2.out, ⟨by simp, by simp, fun z hz => by rw [(List.mem_replicate.1 hz).2]; rfl⟩, by rw [HD.out], HBC.out⟩
      case round =>
        obtain ⟨k, out, inn, rfl, hk, hb1, hb2, hS, hG, hB⟩ := hrel
        have HK1 := Lib.hid hb1
        have HK2 := Lib.hid hb2
        have HS := Lib.hid hS
        have HG := Lib.hid hG
        have HB := Lib.hid hB
        have hzw := hB.size
        have g1l := hb1.lt
        have g2l := hb2.lt
        clear hb1 hb2 hS hG hB
        by_cases d0 : k < n2 - 1
        · (skip)
          obtain ⟨xi, hxi⟩ : ∃ x, T.row[k + 1]? = some x := ⟨_, List.getElem?_eq_getElem (by omega)⟩
          have hxm := List.mem_of_getElem? hxi
          have hxb := HT.out.rb xi hxm
          obtain ⟨x, rfl⟩ := Int.eq_ofNat_of_zero_le hxb.1
          have hxn : x < n1 := by omega
          have hne : x ≠ R := by
            rintro rfl
            obtain ⟨t, ht⟩ := HT.out.hd
            have hnd := HT.out.nd
            rw [ht] at hxi hnd
            have := (List.nodup_cons.1 hnd).1
            exact this (List.mem_of_getElem? (by simpa using hxi))
          obtain ⟨kk, hkk, hby⟩ := HT.out.key x hxm hne
          obtain ⟨z, hz⟩ : ∃ z, zs[kk]? = some z := ⟨_, List.getElem?_eq_getElem hkk⟩
          have hed := C7.out z (List.mem_of_getElem? hz)
          have hln := HL.out
          obtain ⟨b1, o1, rfl, q3, q4⟩ := I1.out.2.2.2.2 (by omega)
          obtain ⟨b, off, rfl, q5, q6⟩ := HZ.out.2.2.2.2 (by omega)
          have BW := Lib.hid (HB2.out.trans (HB.out.mono HB2.out.size))
          have x0 := (BW.out.cell (p := ⟨b, off + kk * 4, none⟩) q5).trans (q6 kk z hz 0 _ rfl)
          have x1 := (BW.out.cell (p := ⟨b, off + kk * 4 + 1, none⟩) q5).trans (q6 kk z hz 1 _ rfl)
          have x2 := (BW.out.cell (p := ⟨b, off + kk * 4 + 2, none⟩) q5).trans (q6 kk z hz 2 _ rfl)
          have x3 := (BW.out.cell (p := ⟨b, off + kk * 4 + 3, none⟩) q5).trans (q6 kk z hz 3 _ rfl)
          have y0 : wr.cell? ⟨b2, o2 + 1 + k, none⟩ = some (.int .i64 (x : Int)) := by
            have h := Q2.out (k + 1) _ hxi 0 _ rfl
            rw [show o2 + (k + 1) * 1 + 0 = o2 + 1 + k by omega] at h
            exact (HB.out.cell (p := ⟨b2, _, none⟩) q1).trans h
          have y1 : wr.cell? ⟨b1, o1 + x, none⟩ = some (.int .i64 (kk : Int)) := by
            have h := q4 x _ hby 0 _ rfl
            rw [show o1 + x * 1 + 0 = o1 + x by omega] at h
            exact (HB.out.cell (p := ⟨b1, _, none⟩) q3).trans h
          obtain ⟨za, zb, zl, zh⟩ := z
          unfold edgeB at hed
          obtain ⟨ea, eb, ec, ed, ee, ef, eg, eh⟩ := hed
          dsimp only at ea eb ec ed ee ef eg eh
          dsimp only [REdge.cells] at x0 x1 x2 x3
          obtain ⟨a, rfl⟩ := Int.eq_ofNat_of_zero_le ea
          obtain ⟨c', rfl⟩ := Int.eq_ofNat_of_zero_le ec
          have HGG := Lib.hid ((spGo_at (l := zs) (by_ := T.by_) hxi out inn).symm.trans HG.out)
          have k0 : (0 : Int) ≤ (kk : Int) := by omega
          have k1 : (kk : Int) < (n : Int) := by omega
          have k2 : (0 : Int) ≤ (x : Int) := by omega
          have k3 : (x : Int) < (n1 : Int) := by omega
          have HBY := Lib.hid hby
          have HZK := Lib.hid hz
          have m1 : b < wr.heap.size := by have := HB2.out.size; omega
          have m2 : b1 < wr.heap.size := by omega
          have m3 : b2 < wr.heap.size := by omega
          clear q4 q6 hby hz hxi hxm
          have KA := Lib.hid (show ∀ f fl fh, a ≠ x → f = a → out[f]? = some ⟨fl, fh⟩ → spSum zs T.by_ out x = ⟨fl + zl, fh + zh⟩ from fun f fl fh hne hf ho => by
            rw [spSum_eq HBY.out HZK.out (f := f) ho (by subst hf; rw [if_neg (by simp only []; omega)]), if_neg (by simp only []; omega)])
          have KB := Lib.hid (show ∀ f fl fh, a = x → f = c' → out[f]? = some ⟨fl, fh⟩ → spSum zs T.by_ out x = ⟨fl + -zh, fh + -zl⟩ from fun f fl fh he hf ho => by
            rw [spSum_eq HBY.out HZK.out (f := f) ho (by subst hf; rw [if_pos (by simp only []; omega)]), if_pos (by simp only []; omega)])
          go_wp2_with fail
          go_region
          have hw3 : ∃ w3, ((wr.alloc (.cells #[.int .i64 (a : Int), .int .i64 (c' : Int), .int .i64 zl, .int .i64 zh] 72)).alloc (.cells #[.int .i64 zl, .int .i64 zh] 41)).drew = w3 ∧ Below wr.heap.size wr w3 ∧ w3.heap.size = wr.heap.size + 2 ∧
              w3.cell? ⟨wr.heap.size, 0, none⟩ = some (.int .i64 (a : Int)) ∧ w3.cell? ⟨wr.heap.size, 1, none⟩ = some (.int .i64 (c' : Int)) ∧ Blk w3 (wr.heap.size + 1) 41 #[.int .i64 zl, .int .i64 zh] :=
            ⟨_, rfl, (by repeat (first | with_reducible exact Below.refl _ _ | (with_reducible refine Below.alloc ?_ (by first | omega | (simp; done) | (simp; omega)) _) | (with_reducible refine Below.setCell ?_ (by first | omega | (simp; done) | (simp; omega)) _) | (with_reducible refine Below.drew ?_) | (with_reducible refine below_drewN ?_ _) | (with_reducible assumption) | (with_reducible refine bel_step (by with_reducible assumption) ?_ (by first | omega | (simp; done) | (simp; omega))))), by simp, by simp, by simp, (Blk.newAt2 _ _ _ _).drewN 1⟩
          obtain ⟨w3, e3, hb3, s3, u0, u1, u2⟩ := hw3
          rw [e3]
          have u3 := u2.cell 0
          have u4 := u2.cell 1
          have u5 := fun o => u2.fz o
          simp at u3 u4
          have U2 := Lib.hid u2
          have HB3 := Lib.hid hb3
          have s4 : wr.heap.size + 1 < w3.heap.size := by omega
          have s5 : wr.heap.size < w3.heap.size := by omega
          clear e3 hb3 u2 x0 x1 x2 x3 y0 y1
          go_upto_if 63 with fail
          go_cut [17] (fun u wx => ∃ (f : Nat) (sl sh : Int), u = .int .i64 f ∧ f < n1 ∧ rightB sl sh = true ∧ (∀ fl fh, out[f]? = some ⟨fl, fh⟩ → spSum zs T.by_ out x = ⟨fl + sl, fh + sh⟩) ∧ Blk wx (wr.heap.size + 1) 41 #[.int .i64 sl, .int .i64 sh] ∧ Below wr.heap.size wr wx)
          case first =>
            by_cases c0 : a = x
            · have KBB := Lib.hid (fun fl fh => KB.out c' fl fh c0 rfl)
              subst c0
              go_wp2_with fail
              go_region_with (first | (go_at_call 55; (with_reducible refine (span_Turned _ _ _ (by omega) (by omega) (by omega) (by omega)).mono ?_); rintro e w4 ⟨rfl, hb4⟩; obtain ⟨hc1, hf1⟩ := bcell hb4; have hz4 := hb4.size; (try simp at hz4)))
              all_goals
                have hb4 : Below w3.heap.size w3 w4 := by first | exact hb4 | exact ((Below.refl _ w3).drew).trans hb4 | exact ((Below.refl _ w3).drew).drew.trans hb4
                have hk4 := Lib.hid (((U2.out.below hb4 (by omega)).set 0 (.int .i64 (-zh))).set 1 (.int .i64 (-zl)))
                have HB4 := Lib.hid (show Below wr.heap.size wr _ from ((HB3.out.trans (hb4.mono (by omega))).setCell (p := ⟨wr.heap.size + 1, 0, none⟩) (by simp) (.int .i64 (-zh))).setCell (p := ⟨wr.heap.size + 1, 1, none⟩) (by simp) (.int .i64 (-zl)))
                clear hc1 hf1 hb4
                go_wp2_with fail
                go_meet
                case rel => exact ⟨c', -zh, -zl, rfl, by omega, rightB_iff.2 (by omega), KBB.out, by first | exact hk4.out | exact hk4.out.drewN 1, by first | exact HB4.out | exact HB4.out.drew⟩
            · have KAA := Lib.hid (fun fl fh => KA.out a fl fh c0 rfl)
              have c1 : ((a : Int) == (x : Int)) = false := by simp; omega
              have c2 : (a == x) = false := by simpa using c0
              clear c0
              go_wp2_with fail
              go_meet
              case rel => exact ⟨a, zl, zh, rfl, by omega, rightB_iff.2 (by omega), KAA.out, U2.out, HB3.out⟩
          case rest =>
            obtain ⟨f, sl, sh, rfl, hf, hsr, hsum, hk5, hb5⟩ := hcut
            obtain ⟨wa, rfl⟩ : ∃ wa : World, wa = wc := ⟨_, rfl⟩
            clear KA KB U2 HB3 u0 u1 u3 u4 u5
            obtain ⟨s, hs⟩ : ∃ s, out[f]? = some s := ⟨_, List.getElem?_eq_getElem (by rw [HS.out.o]; omega)⟩
            have hrs := HS.out.r s (List.mem_of_getElem? hs)
            obtain ⟨fl, fh⟩ := s
            have hsm := hsum fl fh hs
            have hk6 := HK1.out.below hb5 g1l
            have z0 := hk6.sat0 hs
            have z1 := hk6.sat1 hs
            have v0 := hk5.cell 0
            have v1 := hk5.cell 1
            simp at v0 v1
            dsimp only at z0 z1 hrs
            have A1 := addS_ok hrs hsr
            have k4 : (0 : Int) ≤ (f : Int) := by omega
            have k5 : (f : Int) < (n1 : Int) := by omega
            have CA := Lib.hid (fun w => span_Add fl fh sl sh w)
            have HB5 := Lib.hid hb5
            have s6 := hb5.size
            have s7 := hk5.lt
            have s8 := hk6.lt
            have HSM := Lib.hid hsm
            have hgg := HGG.out
            rw [hsm] at hgg
            clear hs hsum hsm hk5 hk6 hb5
            obtain ⟨SE0, hSE⟩ : ∃ S, addS fl fh sl sh = S := ⟨_, rfl⟩
            rw [hSE] at CA A1
            clear hSE hrs hsr
            have HGGG := Lib.hid hgg
            have HA1 := Lib.hid A1
            clear hgg A1
            go_upto_region 14 with fail
            go_cut [19, 20] (fun u ev wx => ∃ g, u = .pointer (some ⟨g, 0, none⟩) ∧ ev = errV SE0.c ∧ Blk wx g 41 #[.int .i64 SE0.lo, .int .i64 SE0.hi] ∧ wa.heap.size ≤ g ∧ Below wa.heap.size wa wx)
            case first =>
              go_region_held3 (fun w' => w'.cell? ⟨g1, f * 2, none⟩ = some (.int .i64 fl) ∧ w'.cell? ⟨g1, f * 2 + 1, none⟩ = some (.int .i64 fh) ∧ w'.cell? ⟨wr.heap.size + 1, 0, none⟩ = some (.int .i64 sl) ∧ w'.cell? ⟨wr.heap.size + 1, 1, none⟩ = some (.int .i64 sh)) (first | go_keep | (((repeat' apply And.intro) <;> exact (Below.cell (B := (wa).heap.size) (w := wa) (by repeat (first | with_reducible exact Below.refl _ _ | (with_reducible refine Below.alloc ?_ (by first | omega | (simp; done) | (simp; omega)) _) | (with_reducible refine Below.setCell ?_ (by first | omega | (simp; done) | (simp; omega)) _) | (with_reducible refine Below.drew ?_) | (with_reducible refine below_drewN ?_ _) | (with_reducible assumption) | (with_reducible refine bel_step (by with_reducible assumption) ?_ (by first | omega | (simp; done) | (simp; omega))))) (by first | omega | (simp; done) | (simp; omega))).trans (by assumption))))
                (first | (go_at_call 56; (with_reducible refine (CA.out _).mono ?_); rintro e w4 ⟨rfl, hb4⟩; obtain ⟨hc4, hf4⟩ := bcell hb4; have hz4 := hb4.size; (try simp at hz4)))
              all_goals
                go_wp2_with fail
                go_meet
                case rel => exact ⟨_, rfl, rfl, (by apply Blk.conv; (focus (repeat (first | (with_reducible assumption) | ((with_reducible apply Blk.newAt); first | (with_reducible rfl) | (simp; done) | omega) | (with_reducible apply Blk.drew) | (with_reducible apply Blk.drewN) | (with_reducible apply Blk.set) | ((with_reducible apply Blk.far); rotate_left 1; (focus (first | omega | (simp; done) | (simp; omega)))) | (with_reducible apply Blk.alloc) | ((with_reducible apply blk_bel); (focus (with_reducible assumption)); (focus (first | omega | (simp; done) | (simp; omega))))))); exact rfl), by omega, (by repeat (first | with_reducible exact Below.refl _ _ | (with_reducible refine Below.alloc ?_ (by first | omega | (simp; done) | (simp; omega)) _) | (with_reducible refine Below.setCell ?_ (by first | omega | (simp; done) | (simp; omega)) _) | (with_reducible refine Below.drew ?_) | (with_reducible refine below_drewN ?_ _) | (with_reducible assumption) | (with_reducible refine bel_step (by with_reducible assumption) ?_ (by first | omega | (simp; done) | (simp; omega)))))⟩
            case rest =>
              obtain ⟨g, rfl, rfl, hkg, gl, hb6⟩ := hcut
              have HB6 := Lib.hid (HB.out.trans ((HB5.out.trans (hb6.mono s6)).mono hzw))
              have hk1 := (HK1.out.below HB5.out g1l).below hb6 (by omega)
              have hk2 := (HK2.out.below HB5.out g2l).below hb6 (by omega)
              have y0 := hkg.cell 0
              have y1 := hkg.cell 1
              simp at y0 y1
              have gl2 := hkg.lt
              obtain ⟨so, hso⟩ : ∃ s, out[x]? = some s := ⟨_, List.getElem?_eq_getElem (by rw [HS.out.o]; omega)⟩
              obtain ⟨si, hsi⟩ : ∃ s, inn[x]? = some s := ⟨_, List.getElem?_eq_getElem (by rw [HS.out.b]; omega)⟩
              have z2 := hk1.sat0 hso
              have z3 := hk1.sat1 hso
              have z4 := hk2.bat hsi
              have zf1 := fun o => hk1.fz o
              have zf2 := fun o => hk2.fz o
              have g12 : g1 ≠ g2 := hk1.type_ne hk2 (by decide)
              have HKK1 := Lib.hid hk1
              have HKK2 := Lib.hid hk2
              clear z0 z1 v0 v1 hk1 hk2 hkg hb6 hso hsi
              cases hr : rightB (fl + sl) (fh + sh)
              · have hnone : spD n1 R zs = none := by rw [← HGGG.out, if_neg (by rw [hr]; simp)]
                have HN := Lib.hid hnone
                have e0 := HA1.out.2 hr
                subst e0
                clear hnone hr
                go_wp2_with fail
                refine bodyPost_ret (v := .tuple #[.slice none 0 0, .slice none 0 0, .iface 87 (.int .i64 1)]) (by simp [results, Tryd.results24, go_sem]) rfl ?_
                exact ⟨(fun o b h => by rw [HN.out] at h; cases h), fun _ => ⟨none, 0, 0, none, 0, 0, rfl, recs_nil _ _ _ _, bools_nil _, HB2.out.trans (HB6.out.mono HB2.out.size)⟩⟩
              · have hgg : spGo zs T.by_ (T.row.drop (k + 1 + 1)) (out.set x ⟨fl + sl, fh + sh⟩) (inn.set x true) = spD n1 R zs := by
                  have h := HGGG.out
                  rw [if_pos hr] at h
                  exact h
                have HSN := Lib.hid (HS.out.set x (z := ⟨fl + sl, fh + sh⟩) hr)
                have HN := Lib.hid hgg
                have e0 := HA1.out.1 hr
                subst e0
                clear hgg hr
                go_wp2_with fail
                go_roundw
                case rel => exact ⟨k + 1, _, _, by go_num, by omega, (HKK1.out.sset x (fl + sl) (fh + sh)).far (by simp; exact g12) _, ((HKK2.out.far (by simp; exact fun q => g12 q.symm) _).far (by simp; exact fun q => g12 q.symm) _).bset x true, HSN.out, HN.out, ((HB6.out.setCell hg1 _).setCell hg1 _).setCell hg2 _⟩
                case measure => simp [intOf]; omega

        · obtain rfl : k = n2 - 1 := by omega
          have hend : spD n1 R zs = some (out, inn) := by
            rw [← HG.out, show n2 - 1 + 1 = T.row.length by omega]
            exact spGo_end (Nat.le_refl _) _ _
          have HE := Lib.hid hend
          clear hend
          go_wp2_with fail
          refine bodyPost_ret (v := .tuple #[.slice (some ⟨g1, 0, none⟩) n1 n1, .slice (some ⟨g2, 0, none⟩) n1 n1, .nilIface]) (by simp [results, Tryd.results24, go_sem]) rfl ?_
          refine ⟨fun o b h => ?_, fun h => by rw [HE.out] at h; cases h⟩
          rw [HE.out] at h
          cases h
          exact ⟨some ⟨g1, 0, none⟩, n1, n1, some ⟨g2, 0, none⟩, n1, n1, rfl, HK1.out.spans HS.out.o (by unfold maxLen; omega) (fun z hz => by have := rightB_iff.1 (HS.out.r z hz); unfold RSpan.ok i64B; omega), HK2.out.bools HS.out.b (by unfold maxLen; omega), HB2.out.trans (HB.out.mono HB2.out.size)⟩

end Go.Proofs.YtfjpfkejajgkbaaDoor
