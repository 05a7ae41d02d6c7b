/-
  The walk of squash.Pick: too many runs that fit together: all of them.
-/
import Derived.Test.YtgeohmfbodlgeaaW6
namespace Go.Proofs.Ytgeohmfbodlgeaa
open Go.RowKit

theorem fits_b (A : Option Addr) (c : Nat) (xs : List RM) (w : World) (B : Nat) (hB : B ≤ w.heap.size) (hx : Runs w B A xs) (hn : xs.length ≤ 100) (hp : ∀ x ∈ xs, 0 ≤ x.bytes) :
    Calls Try.prog 10 #[.slice A xs.length c] w fun e w' => e = .returned (.bool (fitsL xs 16777216)) ∧ Below w.heap.size w w' := fits_any A c xs w B hB hx hn hp

theorem rev_snoc (l : List Int) (x : Int) : x :: l.reverse = (l ++ [x]).reverse := by simp
theorem contains_rev (l : List Int) (z : Int) : l.reverse.contains z = l.contains z := by
  rw [Bool.eq_iff_iff]; simp

/-- The state behind the soundness: what lies where. -/
theorem policy_at {w : World} {W R M : Int} : (w.alloc (.cells #[.int .i64 W, .int .i64 R, .int .i64 M] 23)).cell? ⟨w.heap.size, 0, none⟩ = some (.int .i64 W) ∧ (w.alloc (.cells #[.int .i64 W, .int .i64 R, .int .i64 M] 23)).cell? ⟨w.heap.size, 1, none⟩ = some (.int .i64 R) ∧
    (w.alloc (.cells #[.int .i64 W, .int .i64 R, .int .i64 M] 23)).cell? ⟨w.heap.size, 2, none⟩ = some (.int .i64 M) := by simp

theorem fits_call {A : Option Addr} {c : Nat} {xs : List RM} {w0 w : World} {B : Nat} (hs : Runs w0 B A xs) (hb : Below B w0 w) (hB : B ≤ w.heap.size) (hn : xs.length ≤ 100) (hp : ∀ x ∈ xs, 0 ≤ x.bytes) :
    Calls Try.prog 10 #[.slice A xs.length c] w fun e w' => e = .returned (.bool (fitsL xs 16777216)) ∧ Below w.heap.size w w' := fits_any A c xs w B hB (hs.below hb) hn hp

set_option maxHeartbeats 2000000 in
theorem pick_major (W R M : Int) (A : Option Addr) (c : Nat) (xs : List RM) (w : World) (hx : Runs w w.heap.size A xs) (hn : xs.length ≤ 100) (hok : ∀ x ∈ xs, x.ok) (hp : ∀ x ∈ xs, 0 ≤ x.bytes)
    (h1 : outB W 2 16 = false) (h2 : outB R 2 64 = false) (h3 : outB M W 64 = false) (h : soundB xs = true) (hM : M < xs.length) (hf : fitsL xs 16777216 = true) :
    Calls Try.prog 4 #[.agg #[.int .i64 W, .int .i64 R, .int .i64 M], .slice A xs.length c] w fun e w' => ∃ v, e = .returned (.tuple #[v, .bool true, .int .i64 0]) ∧ Own encI 1 3 w' w.heap.size v (numsL xs (xs.map (·.num))) ∧ Below w.heap.size w w' := by
  have hs : Runs (w.alloc (.cells #[.int .i64 W, .int .i64 R, .int .i64 M] 23)) w.heap.size A xs := hx.alloc (Nat.le_refl _) _
  have hmm := @run_makeMap Try.prog
  have hb0 : Below w.heap.size w (w.alloc (.cells #[.int .i64 W, .int .i64 R, .int .i64 M] 23)) := (Below.refl _ _).alloc (Nat.le_refl _) _
  obtain ⟨p0, p1, p2⟩ := @policy_at w W R M
  generalize hw1 : w.alloc (.cells #[.int .i64 W, .int .i64 R, .int .i64 M] 23) = w1 at hs hb0 p0 p1 p2
  have hw1' : w.heap.size + 1 = w1.heap.size := by rw [← hw1]; simp
  have HW1 := Lib.hid hw1
  have HW1' := Lib.hid hw1'
  have hle : w.heap.size < w1.heap.size := by omega
  clear hw1 hw1'
  go_enter Try.func4, Try.ntmps4
  go_upto_region 1 with (fail)
  rw [HW1.out]
  go_wp2_with (first
    | (go_at_call 8; refine (outside_b _ _ _ _).mono ?_; rintro e w' ⟨rfl, rfl⟩)
    | (go_at_call 9; refine (sound_b _ _ xs _ w.heap.size (by omega) hs (by omega) hok).mono ?_; rintro e w2 ⟨rfl, hb2⟩
       have q0 := (hb2.cell (p := ⟨w.heap.size, 0, none⟩) hle).trans p0
       have q1 := (hb2.cell (p := ⟨w.heap.size, 1, none⟩) hle).trans p1
       have q2 := (hb2.cell (p := ⟨w.heap.size, 2, none⟩) hle).trans p2
       have hs2 := hb2.size
       have hlt2 : w.heap.size < w2.heap.size := by omega
       have hbw2 : Below w.heap.size w w2 := hb0.trans (hb2.mono (by omega))
       clear p0 p1 p2)
    | (go_at_call 10; refine (fits_call hs ((hb2.mono (Nat.le_of_lt hle)).alloc (by omega) _) (by simp; omega) hn hp).mono ?_; rintro e w3 ⟨rfl, hb3⟩))
  have hset : BSet Try.prog 3 4 w3 w2.heap.size 0 [] := (BSet.made w2).below hb3
  have hbw3 : Below w.heap.size w w3 := (hbw2.alloc (by omega) _).trans (hb3.mono (by simp; omega))
  have hr3 : Runs w3 w.heap.size A xs := (hs.below (hb2.mono (by omega))).below (((Below.refl _ _).alloc (by omega) _).trans (hb3.mono (by simp; omega)))
  have hs3 := hb3.size
  simp only [World.size_alloc] at hs3
  clear hb3 hb2 hmm
  go_loopw [45] (fun i wr => ∃ (k : Nat), i = .int .i64 k ∧ k ≤ xs.length ∧ BSet Try.prog 3 4 wr w2.heap.size k ((xs.take k).map (·.num)).reverse ∧ Runs wr w.heap.size A xs ∧ Below w.heap.size w wr) (fun i _ => xs.length - (intOf i).toNat)
  case atStart => exact ⟨0, rfl, by omega, hset, hr3, hbw3⟩
  case round =>
    obtain ⟨k, rfl, hk, hset, hr, hb⟩ := hrel
    by_cases hlt : k < xs.length
    · obtain ⟨ba, o, rfl, _, c0, c1, c2, c3, c4, c5, c6, c7⟩ := runs_at hr (List.getElem?_eq_getElem hlt)
      obtain ⟨k1, k2, _, _⟩ := hok xs[k] (List.getElem_mem hlt)
      have HT := Lib.hid (take_succ_eq (List.getElem?_eq_getElem hlt))
      generalize xs[k] = x at c0 c1 c2 c3 c4 c5 c6 c7 HT k1 k2
      have hw := wf_i64 k1 k2
      have hsz := hb.size
      have HN := Lib.hid (show x.num :: ((xs.take k).map (·.num)).reverse = ((xs.take (k + 1)).map (·.num)).reverse by rw [HT.out, List.map_append]; exact rev_snoc _ _)
      clear HT
      generalize ((xs.take k).map (·.num)).reverse = S at hset HN
      go_wp2_with (at_mapUpdate; refine wp_put _ rfl _ _ _ 39 rfl 3 4 keyed3 Try.underlying3 Try.underlying39 Try.underlying4 w2.heap.size k S rfl (hset.alloc _) (by unfold maxLen; omega) x.num hw rfl rfl ?_; intro w5 hset1 hg1)
      have hb5 : Below w.heap.size w w5 := (hb.alloc hsz _).grown hg1 (by simp; omega) (by intro j hj; injection hj with hj; omega)
      go_roundw
      case rel => exact ⟨k + 1, by go_num, by omega, by rw [← HN.out]; exact hset1, hx.below hb5, hb5⟩
      case measure => simp [intOf]; omega
    · have HZ := Lib.hid (show xs.take k = xs from List.take_of_length_le (by omega))
      rw [HZ.out] at hset
      have hset' := hset.same (S' := xs.map (·.num)) (contains_rev _)
      go_wp2_with (go_at_call 11; refine (nums_any A c xs _ (hr.more hb.size) hn hok _ _ _ hset').mono ?_; rintro e w6 ⟨v, rfl, hown, hb6⟩)
      go_ret3
      exact ⟨v, rfl, hown.weaken hb.size, hb.trans (hb6.mono hb.size)⟩
end Go.Proofs.Ytgeohmfbodlgeaa
