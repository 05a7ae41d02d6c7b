/-
  The walk of squash.Pick, its first ways: a wrong policy, wrong runs, all runs.
-/
import Derived.Test.YtgeohmfbodlgeaaW5
namespace Go.Proofs.Ytgeohmfbodlgeaa
open Go.RowKit

def outB (n lo hi : Int) : Bool := decide (n < lo) || decide (hi < n)
theorem outside_b (n lo hi : Int) (w : World) : Calls Try.prog 8 #[.int .i64 n, .int .i64 lo, .int .i64 hi] w fun e w' => e = .returned (.bool (outB n lo hi)) ∧ w = w' := outside_any n lo hi w

theorem pick_bad (W R M : Int) (A : Option Addr) (n c : Nat) (w : World) (h : outB W 2 16 = true ∨ outB R 2 64 = true ∨ outB M W 64 = true) :
    Calls Try.prog 4 #[.agg #[.int .i64 W, .int .i64 R, .int .i64 M], .slice A n c] w fun e w' => e = .returned (.tuple #[.slice none 0 0, .bool false, .int .i64 124]) ∧ Below w.heap.size w w' := by
  cases h1 : outB W 2 16
  · cases h2 : outB R 2 64
    · have h3 : outB M W 64 = true := by simpa [h1, h2] using h
      clear h
      go_enter Try.func4, Try.ntmps4
      go_wp2_with (go_at_call 8; refine (outside_b _ _ _ _).mono ?_; rintro e w' ⟨rfl, rfl⟩)
      go_ret3
      exact ⟨rfl, (Below.refl _ _).alloc (Nat.le_refl _) _⟩
    · clear h
      go_enter Try.func4, Try.ntmps4
      go_wp2_with (go_at_call 8; refine (outside_b _ _ _ _).mono ?_; rintro e w' ⟨rfl, rfl⟩)
      go_ret3
      exact ⟨rfl, (Below.refl _ _).alloc (Nat.le_refl _) _⟩
  · clear h
    go_enter Try.func4, Try.ntmps4
    go_wp2_with (go_at_call 8; refine (outside_b _ _ _ _).mono ?_; rintro e w' ⟨rfl, rfl⟩)
    go_ret3
    exact ⟨rfl, (Below.refl _ _).alloc (Nat.le_refl _) _⟩

def soundB (xs : List RM) : Bool := decide (xs.length ≤ 64) && soundL xs []
theorem sound_b (A : Option Addr) (c : Nat) (xs : List RM) (w : World) (B : Nat) (hB : B ≤ w.heap.size) (hx : Runs w B A xs) (hn : xs.length ≤ 9223372036854775807) (hok : ∀ x ∈ xs, x.ok) :
    Calls Try.prog 9 #[.slice A xs.length c] w fun e w' => e = .returned (.bool (soundB xs)) ∧ Below w.heap.size w w' := sound_any A c xs w B hB hx hn hok

theorem pick_unsound (W R M : Int) (A : Option Addr) (c : Nat) (xs : List RM) (w : World) (hx : Runs w w.heap.size A xs) (hn : xs.length ≤ 9223372036854775807) (hok : ∀ x ∈ xs, x.ok)
    (h1 : outB W 2 16 = false) (h2 : outB R 2 64 = false) (h3 : outB M W 64 = false) (h : soundB xs = false) :
    Calls Try.prog 4 #[.agg #[.int .i64 W, .int .i64 R, .int .i64 M], .slice A xs.length c] w fun e w' => e = .returned (.tuple #[.slice none 0 0, .bool false, .int .i64 120]) ∧ Below w.heap.size w w' := by
  have hs : Runs (w.alloc (.cells #[.int .i64 W, .int .i64 R, .int .i64 M] 23)) w.heap.size A xs := hx.alloc (Nat.le_refl _) _
  go_enter Try.func4, Try.ntmps4
  go_wp2_with (first
    | (go_at_call 8; refine (outside_b _ _ _ _).mono ?_; rintro e w' ⟨rfl, rfl⟩)
    | (go_at_call 9; refine (sound_b _ _ xs _ w.heap.size (by simp) hs hn hok).mono ?_; rintro e w2 ⟨rfl, hb2⟩))
  go_ret3
  exact ⟨rfl, ((Below.refl _ _).alloc (Nat.le_refl _) _).trans (hb2.mono (by simp))⟩
end Go.Proofs.Ytgeohmfbodlgeaa
