/- The reference's node in memory, its cells. -/
import Derived.Test.YtlkekkpknmbobaaDoorNodeQ
import Derived.Test.YtlkekkpknmbobaaDoorBlk
import Derived.Test.YtlkekkpknmbobaaDoorKept
namespace Go.Proofs.YtlkekkpknmbobaaDoor
open Go.RowKit
set_option linter.unusedVariables false
set_option linter.unusedSimpArgs false
def hasV (s : NSt) (x : Int) : Value := .bool (s.f x).isSome
def loV (s : NSt) (x : Int) : Value := .int .i64 (((s.f x).map Kn.lo).getD 0)
def hiV (s : NSt) (x : Int) : Value := .int .i64 (((s.f x).map Kn.hi).getD 0)
def atV (s : NSt) (x : Int) : Value := .int .i64 (((s.f x).map Kn.at_).getD 0)
def rcells (s : NSt) : Array Value := #[.int .i64 s.id, .int .i64 s.N, .int .i64 s.p, .int .i64 s.h, hasV s 0, hasV s 1, hasV s 2, hasV s 3, hasV s 4, hasV s 5,
  loV s 0, hiV s 0, loV s 1, hiV s 1, loV s 2, hiV s 2, loV s 3, hiV s 3, loV s 4, hiV s 4, loV s 5, hiV s 5, atV s 0, atV s 1, atV s 2, atV s 3, atV s 4, atV s 5]
theorem six {x : Nat} (h : x < 6) : x = 0 ∨ x = 1 ∨ x = 2 ∨ x = 3 ∨ x = 4 ∨ x = 5 := by omega
theorem rcell_has (s : NSt) {x : Nat} (h : x < 6) : (rcells s)[4 + x]? = some (hasV s x) := by
  rcases six h with rfl | rfl | rfl | rfl | rfl | rfl <;> rfl
theorem rcell_lo (s : NSt) {x : Nat} (h : x < 6) : (rcells s)[10 + x * 2]? = some (loV s x) := by
  rcases six h with rfl | rfl | rfl | rfl | rfl | rfl <;> rfl
theorem rcell_hi (s : NSt) {x : Nat} (h : x < 6) : (rcells s)[10 + x * 2 + 1]? = some (hiV s x) := by
  rcases six h with rfl | rfl | rfl | rfl | rfl | rfl <;> rfl
theorem rcell_at (s : NSt) {x : Nat} (h : x < 6) : (rcells s)[22 + x]? = some (atV s x) := by
  rcases six h with rfl | rfl | rfl | rfl | rfl | rfl <;> rfl
theorem rcells_heard (s : NSt) (here : Int) : (rcells s).setIfInBounds 3 (.int .i64 here) = rcells (s.heard here) := rfl
theorem rcells_learn (s : NSt) {x : Nat} (h : x < 6) (here lo hi : Int) :
    ((((((rcells s).setIfInBounds 3 (.int .i64 here)).setIfInBounds (4 + x) (.bool true)).setIfInBounds (10 + x * 2) (.int .i64 lo)).setIfInBounds (10 + x * 2 + 1) (.int .i64 hi)).setIfInBounds (22 + x) (.int .i64 here)) = rcells (s.learn x here lo hi) := by
  rcases six h with rfl | rfl | rfl | rfl | rfl | rfl <;> simp [rcells, NSt.learn, hasV, loV, hiV, atV]
end Go.Proofs.YtlkekkpknmbobaaDoor
