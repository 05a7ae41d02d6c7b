/-
  slices.Clone of runs, whatever the slice; slices.SortFunc of what Clone gave.
-/
import Derived.Test.YtgeohmfbodlgeaaW7
namespace Go.Proofs.Ytgeohmfbodlgeaa
open Go.RowKit Go.Sort Go.Lib

set_option maxHeartbeats 1000000 in
theorem clone_any (A : Option Addr) (c : Nat) (xs : List RM) (w : World) (hx : Runs w w.heap.size A xs) (hn : xs.length ≤ 100) :
    Calls Try.prog 12 #[.slice A xs.length c] w fun e w' => ∃ v, e = .returned v ∧ Own encRM 8 31 w' w.heap.size v xs ∧ RowKit.Below w.heap.size w w' := by
  have q : ∀ (w : World) (a : Option Addr) (n c n' c' : Nat), (binOp .eql 24 (.slice a n c) (.slice none n' c')).run Try.prog w = .ok (.bool a.isNone) w := fun w a n c n' c' => Lib.run_eql_slice_nil w _ _ a n c n' c' Try.underlying24
  rcases A with _ | a
  · have : xs = [] := by
      rcases hx with h | ⟨b, o, h, _⟩
      · exact h
      · cases h
    subst this
    go_enter Try.func12, Try.ntmps12
    go_wp2
    go_ret
    exact ⟨_, rfl, Own.nil, Below.refl _ _⟩
  · have hmade : Own encRM 8 31 (w.alloc (.cells #[] 31)) w.heap.size (.slice (some ⟨w.heap.size, 0, none⟩) 0 0) [] := World.ownsRow_made w #[] 0 (Nat.le_refl _) (Nat.zero_le _) (by simp)
    have hx' : Runs (w.alloc (.cells #[] 31)) w.heap.size (some a) xs := hx.alloc (Nat.le_refl _) _
    go_enter Try.func12, Try.ntmps12
    go_wp2_with (at_builtin; refine wp_app _ encRM 8 rfl _ _ 24 rfl w.heap.size 31 96 Try.underlying24 info31 (by omega) len_RM one_RM (.slice (some ⟨w.heap.size, 0, none⟩) 0 0) [] rfl hmade w.heap.size (some a) _ _ xs rfl rfl hx' (by simp; omega) (by simp; omega) (by simp) ?_; intro v1 w1 hown1 hg1 hat1 _)
    go_ret
    exact ⟨_, rfl, by simpa using hown1, ((Below.refl _ _).alloc (Nat.le_refl _) _).grown hg1 (by simp) (by intro k hk; simp [Value.ownBlock] at hk; omega)⟩

theorem sort_all (A : Option Addr) (c : Nat) (xs : List RM) (w : World) (base : Nat) (h : ∀ x ∈ xs, 1 ≤ x.num ∧ x.num ≤ 9223372036854775807) (hown : Own encRM 8 31 w base (.slice A xs.length c) xs) (hn : xs.length ≤ 100) (hbase : base ≤ w.heap.size) :
    Calls Try.prog 13 #[.slice A xs.length c, .func (.func 14) #[] #[]] w fun e w' => e = .returned (.tuple #[]) ∧ ∃ ys : List RM, ys.Perm xs ∧ Sorted ys ∧ Runs w' w'.heap.size A ys ∧ RowKit.Below base w w' := by
  by_cases hx : xs = []
  · subst hx
    have := AnyF.slices_SortFunc_none (P := Try.prog) (ρ := Try.sortRM_ren) Try.sortRM A c (.func (.func 14) #[] #[]) w
    change Calls Try.prog 13 _ _ _ at this
    refine this.mono ?_
    rintro e w' ⟨rfl, rfl⟩
    exact ⟨rfl, [], List.Perm.refl _, List.Pairwise.nil, Row.nil, Below.refl _ _⟩
  · rcases hown.2 with ⟨_, h0⟩ | ⟨g, cap, cur, hv, _⟩
    · exact absurd (List.eq_nil_of_length_eq_zero h0) hx
    · injection hv with hv _ _
      subst hv
      exact sort_any g c xs w base h hown hn hbase
end Go.Proofs.Ytgeohmfbodlgeaa
