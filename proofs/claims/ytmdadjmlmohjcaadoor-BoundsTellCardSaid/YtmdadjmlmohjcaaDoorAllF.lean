/- bounds.All, of any edges. -/
import Derived.Test.YtmdadjmlmohjcaaDoorAll
namespace Go.Proofs.YtmdadjmlmohjcaaDoor
open Go.RowKit
set_option linter.unusedVariables false
set_option linter.unusedSimpArgs false
/-- what All answers, of any edges. -/
def AllF (N : Int) (zs : List REdge) (w w' : World) (e : Ending) : Prop :=
  ∃ (A : Option Addr) (n c : Nat) (B : Option Addr) (m d : Nat) (k : Int), e = .returned (.tuple #[.slice A n c, .slice B m d, errV k]) ∧ Below w.heap.size w w' ∧
    ((edgesC N zs ≠ 0 ∧ k = edgesC N zs) ∨ (edgesC N zs = 0 ∧ ((Sunk (Arc zs) N.toNat ∧ k = 7) ∨ (¬ Sunk (Arc zs) N.toNat ∧ k ≠ 7))))
theorem bounds_All_f (N : Int) (A : Option Addr) (n c : Nat) (zs : List REdge) (w : World) (hz : IsRecs w REdge.cells REdge.ok 4 A n c zs) :
    Calls Tryd.prog 13 #[.int .i64 N, .slice A n c] w fun e w' => AllF N zs w w' e := by
  by_cases c0 : edgesC N zs = 0
  · obtain ⟨c4, c5, c6, c7⟩ := edgesC_0 c0
    obtain ⟨N', rfl⟩ := Int.eq_ofNat_of_zero_le (show 0 ≤ N by omega)
    refine (bounds_All_ok N' A n c zs w hz c0).mono ?_
    rintro e w1 ⟨A1, n1, c1, B1, m1, d1, k, rfl, hb, h⟩
    refine ⟨A1, n1, c1, B1, m1, d1, k, rfl, hb, .inr ⟨c0, ?_⟩⟩
    rw [Int.toNat_natCast]
    rcases h with ⟨h1, h2⟩ | ⟨h1, _, _, ⟨h2, _⟩ | ⟨h2, _⟩⟩
    · exact .inl ⟨h1, h2⟩
    · exact .inr ⟨h1, by omega⟩
    · exact .inr ⟨h1, by omega⟩
  · have hm1 := hz.2.1
    have hm2 := hz.2.2.1
    unfold maxLen at hm2
    have C := Lib.hid (bounds_Check N A n c zs w hz)
    rw [errV_ne c0] at C
    have C0 := Lib.hid c0
    clear hz c0
    go_enter Tryd.func13, Tryd.ntmps13
    go_wp2_with fail
    refine C.out.mono ?_
    rintro e w1 ⟨rfl, hb1⟩
    go_wp2_with fail
    refine bodyPost_ret (v := .tuple #[.slice none 0 0, .slice none 0 0, .iface 53 (.int .i64 (edgesC N zs))]) (by simp [results, Tryd.results13, go_sem]) rfl ?_
    exact ⟨none, 0, 0, none, 0, 0, edgesC N zs, by rw [errV_ne C0.out], hb1, .inl ⟨C0.out, rfl⟩⟩
end Go.Proofs.YtmdadjmlmohjcaaDoor
