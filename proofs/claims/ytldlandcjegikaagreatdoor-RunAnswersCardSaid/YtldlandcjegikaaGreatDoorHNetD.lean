/- Package net: an act, walked. -/
import Derived.Test.YtldlandcjegikaaGreatDoorHNetDB
import Derived.Test.YtldlandcjegikaaGreatDoorHNetDT
namespace Go.Proofs.YtldlandcjegikaaGreatDoor
open Go.RowKit
set_option linter.unusedVariables false
set_option linter.unusedSimpArgs false
theorem net_Do (a : NAd) (ss rs : List Int) (p t t' : Int) (uv : Value) (us us' : List RLetter) (K : Nat) (S S' : Nat → NSt) (A : RAct) (c : Int) (w : World) (h : NetAt w a ss rs p t uv us K S) (hA : A.ok) (hK : K < 100000) (hn : NAct a.n ss rs t us S A c t' us' S') :
  Calls Tryz.prog 64 #[.pointer (some ⟨a.N, 0, none⟩), .agg #[.int .i64 A.what, .int .i64 A.a, .int .i64 A.b]] w (NetDone w a ss rs p uv c t' us' (K + 1) S') := by
 cases hn with
 | quiet _ _ _ hw => exact net_Do_quiet a ss rs p t t' uv us us' K S A c w h hA hK hw
 | bad _ _ L d sv rv b _ s' hw hd hs hr hh hc => exact net_Do_bad a ss rs p t t' uv us us' K S A L d sv rv b s' c w h hA hK hw hd hs hr hh hc
 | told _ _ L d sv rv b s' hw hd hs hr hh ha => exact net_Do_told a ss rs p t t' uv us us' K S A L d sv rv b s' w h hA hK hw hd hs hr hh ha
 | asked _ us1 _ L d sv rv b _ s' hw hd hs hr hh ha hwa => exact net_Do_asked a ss rs p t t' uv us us1 K S A L d sv rv b s' c us' w h hA hK hw hd hs hr hh ha hwa
end Go.Proofs.YtldlandcjegikaaGreatDoor
