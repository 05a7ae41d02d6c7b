/-
  The world without the node, and what holds of it.
-/
import Derived.Test.YtocogcgnahbpkaaGreatW2
namespace Go.Proofs.YtocogcgnahbpkaaGreat
open Go.RowKit

/-- The world without the node, and what holds of it. -/
structure AW (w : World) (S : Nat → Prop) (bw b1 h : Nat) (g : WG) : Prop where
  at_ : WAt w S bw b1 g
  kinv : KInv g.known g.tm h (g.dl.map con) g.t
  high : g.high = h
  cm0 : 0 ≤ g.cm
  cmh : g.cm ≤ h
  vo : ∀ p ∈ g.voted, p.2 = 1
  le : ∀ p ∈ g.led, p.2 = 1

end Go.Proofs.YtocogcgnahbpkaaGreat
