/- The reference: a text cut at each byte c, walked. -/
import Derived.Test.YtldlandcjegikaaGreatDoorHRSpanT
import Derived.IntWalk
namespace Go.Proofs.YtldlandcjegikaaGreatDoor
open Go.RowKit
set_option linter.unusedVariables false
set_option linter.unusedSimpArgs false
theorem infoStr : (Tryz.prog.info? 9).map (fun i => (i.zero, i.size, i.bytes)) = some (some (.string ⟨#[]⟩), 1, 16) := by kernel_rfl
def strC (l : List UInt8) : List Value := [.string ⟨l.toArray⟩]
theorem strC_len (l : List UInt8) : (strC l).length = 1 := rfl
theorem cutF_le (c : UInt8) : ∀ (l : List UInt8) (p : List (List UInt8) × List UInt8), (l.foldl (cutF c) p).1.length ≤ p.1.length + l.length := by
 intro l
 induction l with
 | nil => intro p; simp
 | cons x l ih =>
  intro p
  have := ih (cutF c p x)
  have h : (cutF c p x).1.length ≤ p.1.length + 1 := by unfold cutF; split <;> simp
  simp only [List.foldl_cons, List.length_cons]
  omega
theorem cutD_le (c : UInt8) (l : List UInt8) : (cutD c l).1.length ≤ l.length := by
 have := cutF_le c l ([], [])
 unfold cutD
 simp at this
 exact this
theorem ext_drop (s : ByteArray) (f k : Nat) : s.extract f k = ⟨((s.data.toList.take k).drop f).toArray⟩ := by
 apply ByteArray.ext
 apply Array.ext'
 rw [sub_bytes_r, List.toList_toArray, List.drop_take]
set_option maxRecDepth 100000 in
set_option maxHeartbeats 4000000 in
theorem r1_Cut (s : ByteArray) (c : UInt8) (w : World) (hs : s.size ≤ 1048576) :
  Calls Tryz.prog 7 #[.string s, .int .u8 (c.toNat : Int)] w fun e w' => ∃ v, e = .returned v ∧ w'.ownsRow w.heap.size 9 1 v (piecesL c s.data.toList).length ((piecesL c s.data.toList).flatMap strC) ∧ Below w.heap.size w w' := by
 obtain ⟨i0, hi, hz0, hz1, hz2⟩ := info_parts infoStr
 have HX := Lib.hid (fun k h i hi w => idx_r s k h i hi w)
 obtain ⟨l, el⟩ : ∃ l, s.data.toList = l := ⟨_, rfl⟩
 have hlen : l.length = s.size := by rw [← el]; exact str_len2 s
 have EL := Lib.hid el
 have HLEN := Lib.hid hlen
 rw [el]
 clear el hlen
 go_enter Tryz.func7, Tryz.ntmps7
 go_wp2_with fail
 go_loopw [5, 6, 7] (fun lv fv kv wr => ∃ f k : Nat, fv = .int .i64 f ∧ kv = .int .i64 k ∧ k ≤ s.size ∧ f ≤ k ∧ (cutD c (l.take k)).2 = (l.take k).drop f ∧ wr.ownsRow w.heap.size 9 1 lv (cutD c (l.take k)).1.length ((cutD c (l.take k)).1.flatMap strC) ∧ Below w.heap.size w wr) (fun _ _ kv _ => s.size - (intOf kv).toNat)
 case atStart => exact ⟨0, 0, rfl, rfl, by omega, by omega, rfl, own_nil _ _ _ _, Below.refl _ _⟩
 case round =>
  obtain ⟨f, k, rfl, rfl, hk, hf, hcur, ho, hB⟩ := hrel
  have HO := Lib.hid ho
  have HB := Lib.hid hB
  have HC := Lib.hid hcur
  have hzw := hB.size
  have hle := cutD_le c (l.take k)
  rw [List.length_take, HLEN.out] at hle
  clear ho hB hcur
  obtain ⟨ps, eps⟩ : ∃ ps, (cutD c (l.take k)).1 = ps := ⟨_, rfl⟩
  rw [eps] at HO hle
  have HPS := Lib.hid eps
  have hle2 : ps.length ≤ k := by omega
  clear eps hle
  by_cases d1 : k < s.size
  ·have y0 := HX.out k d1 (k : Int) rfl
   rw [EL.out] at y0
   have hsn := Lib.hid (show l.take (k + 1) = l.take k ++ [l.getD k 0] from take_snoc_r (by rw [HLEN.out]; exact d1))
   obtain ⟨x, exx⟩ : ∃ x : UInt8, l.getD k 0 = x := ⟨_, rfl⟩
   rw [exx] at y0 hsn
   clear exx
   by_cases d2 : (x.toNat : Int) = (c.toNat : Int)
   ·have hx : x = c := UInt8.toNat_inj.1 (by omega)
    have HXC := Lib.hid hx
    have hex : s.extract f k = ⟨((cutD c (l.take k)).2).toArray⟩ := by
     rw [HC.out, ← EL.out, ext_drop]
    have HEX := Lib.hid hex
    clear hx hex
    go_wp2_with (at_builtin; refine wpList_append_own _ rfl _ _ 23 rfl w.heap.size 9 i0 (.string ⟨#[]⟩) 1 16 Tryz.underlying23 hi hz0 hz1 hz2 rfl (by decide) _ _ _ rfl (HO.out.alloc _) ⟨wr.heap.size, 0, none⟩ 1 1 [.string (s.extract f k)] rfl rfl (cell_newAt wr [.string (s.extract f k)] _ _ rfl) (by intro u hu; simp at hu; subst hu; rfl) (by unfold maxLen; omega) (by omega) (by simp; omega) ?_; intro v' w1 ho1 hg1 _)
    have HB2 := Lib.hid (show Below w.heap.size w w1 from (HB.out.alloc (by omega) _).grown hg1 (by simp; omega) (fun k hk => (HO.out.lt k hk).1))
    rw [HEX.out] at ho1
    have HO2 := Lib.hid (own_snoc strC (z := (cutD c (l.take k)).2) ho1)
    clear ho1 hg1
    go_roundw
    case rel =>
     refine ⟨k + 1, k + 1, by simp, by simp, by omega, by omega, ?_, ?_, HB2.out⟩
     ·rw [hsn.out, cutD_snoc, HXC.out, cutF_hit, List.drop_of_length_le (by simp; omega)]
     ·rw [hsn.out, cutD_snoc, HXC.out, cutF_hit, HPS.out]
      exact HO2.out
    case measure => simp [intOf]; omega
   ·have hx : ¬ x = c := fun e => d2 (by rw [e])
    have HXC := Lib.hid hx
    clear hx
    go_wp2_with fail
    go_roundw
    case rel =>
     refine ⟨f, k + 1, rfl, by simp, by omega, by omega, ?_, ?_, HB.out⟩
     ·rw [hsn.out, cutD_snoc, cutF_miss HXC.out, HC.out, List.drop_append_of_le_length (by rw [List.length_take, HLEN.out]; omega)]
     ·rw [hsn.out, cutD_snoc, cutF_miss HXC.out, HPS.out]
      exact HO.out
    case measure => simp [intOf]; omega
  ·obtain rfl : k = s.size := by omega
   have htk := Lib.hid (show l.take s.size = l from List.take_of_length_le (by rw [HLEN.out]; exact Nat.le_refl _))
   have hex : s.extract f s.size = ⟨((cutD c l).2).toArray⟩ := by
    have := HC.out
    rw [htk.out] at this
    rw [this, ← EL.out, ext_drop, EL.out, htk.out]
   have HEX := Lib.hid hex
   clear hex
   go_wp2_with (at_builtin; refine wpList_append_own _ rfl _ _ 23 rfl w.heap.size 9 i0 (.string ⟨#[]⟩) 1 16 Tryz.underlying23 hi hz0 hz1 hz2 rfl (by decide) _ _ _ rfl (HO.out.alloc _) ⟨wr.heap.size, 0, none⟩ 1 1 [.string (s.extract f s.size)] rfl rfl (cell_newAt wr [.string (s.extract f s.size)] _ _ rfl) (by intro u hu; simp at hu; subst hu; rfl) (by unfold maxLen; omega) (by omega) (by simp; omega) ?_; intro v' w1 ho1 hg1 _)
   have HB2 := Lib.hid (show Below w.heap.size w w1 from (HB.out.alloc (by omega) _).grown hg1 (by simp; omega) (fun k hk => (HO.out.lt k hk).1))
   rw [HEX.out] at ho1
   have HO2 := Lib.hid (own_snoc strC (z := (cutD c l).2) ho1)
   clear ho1 hg1
   have hps := HPS.out
   rw [htk.out] at hps
   have HP2 := Lib.hid hps
   clear hps
   go_wp2_with fail
   go_ret
   refine ⟨v', rfl, ?_, HB2.out⟩
   unfold piecesL
   rw [HP2.out]
   exact HO2.out
end Go.Proofs.YtldlandcjegikaaGreatDoor
