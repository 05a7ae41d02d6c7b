/-
  The walk of squash.nums: the numbers of those runs that a set holds.
-/
import Derived.Test.YtgeohmfbodlgeaaW1
namespace Go.Proofs.Ytgeohmfbodlgeaa
open Go.RowKit

theorem info3 : ∃ i z, Try.prog.info? 3 = some i ∧ i.zero = some z ∧ i.size = 1 ∧ i.bytes = 8 ∧ z.cells.size = 1 := by
  have h : (Try.prog.info? 3).map (fun i => (i.zero, i.size, i.bytes)) = some (some (.int .i64 0), 1, 8) := by kernel_rfl
  obtain ⟨i, hi, h0, h1, h2⟩ := info_parts h
  exact ⟨i, _, hi, h0, h1, h2, rfl⟩
theorem info31 : ∃ i z, Try.prog.info? 31 = some i ∧ i.zero = some z ∧ i.size = 8 ∧ i.bytes = 96 ∧ z.cells.size = 8 := by
  have h : (Try.prog.info? 31).map (fun i => (i.zero, i.size, i.bytes)) = some (some (.agg #[.int .i64 0, .int .i64 0, .int .i64 0, .int .i64 0, .int .i64 0, .int .i64 0, .slice none 0 0, .slice none 0 0]), 8, 96) := by kernel_rfl
  obtain ⟨i, hi, h0, h1, h2⟩ := info_parts h
  exact ⟨i, _, hi, h0, h1, h2, rfl⟩

def numsL (xs : List RM) (S : List Int) : List Int := (xs.filter fun x => S.contains x.num).map (·.num)
theorem numsL_snoc (xs : List RM) (x : RM) (S : List Int) : numsL (xs ++ [x]) S = numsL xs S ++ if S.contains x.num then [x.num] else [] := by
  unfold numsL
  rw [List.filter_append, List.map_append]
  by_cases h : S.contains x.num = true
  · rw [if_pos h, List.filter_cons, if_pos h]; rfl
  · rw [if_neg h, List.filter_cons, if_neg h]; rfl
theorem numsL_len (xs : List RM) (S : List Int) : (numsL xs S).length ≤ xs.length := by
  unfold numsL
  rw [List.length_map]
  exact List.length_filter_le _ _

theorem row_one_int (w : World) (x : Int) (g : Nat) (hg : g = w.heap.size) : Ints (w.alloc (.cells #[.int .i64 x] 3)) (g + 1) (some ⟨g, 0, none⟩) [x] :=
  .inr ⟨_, _, rfl, by omega, fun k y hk j v hv => by
    subst hg
    have hk0 : k = 0 := by have := (List.getElem?_eq_some_iff.1 hk).1; simp at this; exact this
    subst hk0
    simp at hk; subst hk
    have hj : j = 0 := by have := (List.getElem?_eq_some_iff.1 hv).1; rw [len_I] at this; omega
    subst hj
    simp [encI] at hv; subst hv
    simp⟩

set_option maxHeartbeats 1000000 in
theorem nums_any (A : Option Addr) (c : Nat) (xs : List RM) (w : World) (hx : Runs w w.heap.size A xs) (hn : xs.length ≤ 100) (hok : ∀ x ∈ xs, x.ok) (b m : Nat) (S : List Int) (hS : BSet Try.prog 3 4 w b m S) :
    Calls Try.prog 11 #[.slice A xs.length c, .map (some b)] w fun e w' => ∃ v, e = .returned v ∧ Own encI 1 3 w' w.heap.size v (numsL xs S) ∧ Below w.heap.size w w' := by
  go_enter Try.func11, Try.ntmps11
  go_wp2
  go_loopw [5, 10] (fun l i wr => ∃ (k : Nat), i = .int .i64 k ∧ k ≤ xs.length ∧ Own encI 1 3 wr w.heap.size l (numsL (xs.take k) S) ∧ Below w.heap.size w wr) (fun _ i _ => xs.length - (intOf i).toNat)
  case atStart => exact ⟨0, rfl, by omega, Own.nil, Below.refl _ _⟩
  case round =>
    obtain ⟨k, rfl, hk, hown, hb⟩ := hrel
    by_cases hlt : k < xs.length
    · obtain ⟨ba, o, rfl, _, c0, c1, c2, c3, c4, c5, c6, c7⟩ := runs_at (hx.below hb) (List.getElem?_eq_getElem hlt)
      have HT := Lib.hid (take_succ_eq (List.getElem?_eq_getElem hlt))
      obtain ⟨k1, k2, _, _⟩ := hok xs[k] (List.getElem_mem hlt)
      have hset := hS.below hb
      have hsz := hb.size
      generalize xs[k] = x at c0 c1 c2 c3 c4 c5 c6 c7 HT k1 k2
      have hw := wf_i64 k1 k2
      have hlook := fun o => (hset.alloc o).look (t := 39) keyed3 Try.underlying3 Try.underlying39 Try.underlying4 (bool_zero _) x.num hw
      have hle := numsL_len (xs.take k) S
      rw [List.length_take] at hle
      have HN := Lib.hid (show numsL (xs.take (k + 1)) S = numsL (xs.take k) S ++ if S.contains x.num then [x.num] else [] by rw [HT.out]; exact numsL_snoc _ _ _)
      clear HT
      generalize numsL (xs.take k) S = ys at hown hle HN
      cases hc : S.contains x.num
      · have HC := Lib.hid hc
        simp only [hc] at hlook
        clear hc
        go_wp2
        go_roundw
        case rel => exact ⟨k + 1, by go_num, by omega, by rw [HN.out, HC.out]; simpa using hown.alloc _, hb.alloc hsz _⟩
        case measure => simp [intOf]; omega
      · have HC := Lib.hid hc
        simp only [hc] at hlook
        clear hc
        go_wp2_with (at_builtin; (refine wp_app _ encI 1 rfl _ _ 25 rfl w.heap.size 3 8 Try.underlying25 info3 (by omega) len_I one_I _ ys rfl ((hown.alloc _).alloc _) _ _ 1 1 [x.num] rfl rfl (row_one_int _ _ _ (by simp)) (by simp; omega) (by simp; omega) (by simp; omega) ?_); intro v1 w1 hown1 hg1 hat1 _)
        have hb1 : Below w.heap.size w w1 := ((hb.alloc hsz _).alloc (by simp; omega) _).grown hg1 (by simp; omega) (fun j hj => (hown.lt j hj).1)
        go_roundw
        case rel => exact ⟨k + 1, by go_num, by omega, by rw [HN.out, HC.out]; exact hown1, hb1⟩
        case measure => simp [intOf]; omega
    · have HZ := Lib.hid (show xs.take k = xs from List.take_of_length_le (by omega))
      go_wp2
      go_ret
      exact ⟨_, rfl, by have := hown; rwa [HZ.out] at this, hb⟩
end Go.Proofs.Ytgeohmfbodlgeaa
