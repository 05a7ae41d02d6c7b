/-
  The walks of the program's small functions over lists of runs: sameInts, num, outside, fits, sound, nums.
-/
import Derived.Test.YtgeohmfbodlgeaaRows
import Derived.Test.YtgeohmfbodlgeaaMem
import Derived.BigQuiet
import Derived.Deep.QuietTactic
namespace Go.Proofs.Ytgeohmfbodlgeaa
open Go.RowKit

/-- A run's description, as data. -/
structure RM where
  num : Int
  count : Int
  index : Int
  low : Int
  clock : Int
  bytes : Int
  fa : Option Addr
  fl : Nat
  fc : Nat
  la : Option Addr
  ll : Nat
  lc : Nat

def encRM (x : RM) : List Value := [.int .i64 x.num, .int .i64 x.count, .int .i64 x.index, .int .i64 x.low, .int .i64 x.clock, .int .i64 x.bytes, .slice x.fa x.fl x.fc, .slice x.la x.ll x.lc]
def encI (x : Int) : List Value := [.int .i64 x]
def RM.ok (x : RM) : Prop := -9223372036854775808 ≤ x.num ∧ x.num ≤ 9223372036854775807 ∧ -9223372036854775808 ≤ x.bytes ∧ x.bytes ≤ 9223372036854775807

theorem len_RM (x : RM) : (encRM x).length = 8 := rfl
theorem len_I (x : Int) : (encI x).length = 1 := rfl
theorem one_RM (x : RM) : ∀ u ∈ encRM x, u.oneCell' = true := by
  intro u hu
  simp only [encRM, List.mem_cons, List.not_mem_nil, or_false] at hu
  rcases hu with rfl | rfl | rfl | rfl | rfl | rfl | rfl | rfl <;> rfl
theorem one_I (x : Int) : ∀ u ∈ encI x, u.oneCell' = true := by
  intro u hu
  simp only [encI, List.mem_cons, List.not_mem_nil, or_false] at hu
  subst hu; rfl

abbrev Runs (w : World) (B : Nat) (A : Option Addr) (xs : List RM) : Prop := Row encRM 8 w B A xs
abbrev Ints (w : World) (B : Nat) (A : Option Addr) (xs : List Int) : Prop := Row encI 1 w B A xs

theorem runs_at {w : World} {B : Nat} {A : Option Addr} {xs : List RM} {k : Nat} {x : RM} (h : Runs w B A xs) (hk : xs[k]? = some x) : ∃ b o, A = some ⟨b, o, none⟩ ∧ b < B ∧
    w.cell? ⟨b, o + k * 8, none⟩ = some (.int .i64 x.num) ∧ w.cell? ⟨b, o + k * 8 + 1, none⟩ = some (.int .i64 x.count) ∧
    w.cell? ⟨b, o + k * 8 + 2, none⟩ = some (.int .i64 x.index) ∧ w.cell? ⟨b, o + k * 8 + 3, none⟩ = some (.int .i64 x.low) ∧
    w.cell? ⟨b, o + k * 8 + 4, none⟩ = some (.int .i64 x.clock) ∧ w.cell? ⟨b, o + k * 8 + 5, none⟩ = some (.int .i64 x.bytes) ∧
    w.cell? ⟨b, o + k * 8 + 6, none⟩ = some (.slice x.fa x.fl x.fc) ∧ w.cell? ⟨b, o + k * 8 + 7, none⟩ = some (.slice x.la x.ll x.lc) := by
  obtain ⟨b, o, e, hb, h⟩ := h.at_ hk
  exact ⟨b, o, e, hb, h 0 _ rfl, h 1 _ rfl, h 2 _ rfl, h 3 _ rfl, h 4 _ rfl, h 5 _ rfl, h 6 _ rfl, h 7 _ rfl⟩
theorem ints_at' {w : World} {B : Nat} {A : Option Addr} {xs : List Int} {k : Nat} {x : Int} (h : Ints w B A xs) (hk : xs[k]? = some x) : ∃ b o, A = some ⟨b, o, none⟩ ∧ b < B ∧
    w.cell? ⟨b, o + k, none⟩ = some (.int .i64 x) := by
  obtain ⟨b, o, e, hb, h⟩ := h.at_ hk
  have := h 0 _ rfl
  exact ⟨b, o, e, hb, by simpa using this⟩

theorem num_any (n : Int) (w : World) : Calls Try.prog 6 #[.int .i64 n] w fun e w' => e = .returned (.int .i64 n) ∧ w = w' := by
  go_enter Try.func6, Try.ntmps6
  go_wp2
  go_ret
  exact ⟨rfl, rfl⟩

theorem outside_any (n lo hi : Int) (w : World) : Calls Try.prog 8 #[.int .i64 n, .int .i64 lo, .int .i64 hi] w fun e w' => e = .returned (.bool (decide (n < lo) || decide (hi < n))) ∧ w = w' := by
  go_enter Try.func8, Try.ntmps8
  go_wp2
  all_goals (go_ret; exact ⟨ret_bool (by simp [*]), rfl⟩)

/-! sameInts -/
theorem take_succ_eq {α : Type} {l : List α} {k : Nat} {x : α} (h : l[k]? = some x) : l.take (k + 1) = l.take k ++ [x] := by
  obtain ⟨hk, rfl⟩ := List.getElem?_eq_some_iff.1 h
  exact List.take_succ_eq_append_getElem hk

set_option maxHeartbeats 400000 in
theorem sameInts_any (A1 A2 : Option Addr) (c1 c2 : Nat) (xs ys : List Int) (w : World) (B : Nat) (h1 : Ints w B A1 xs) (h2 : Ints w B A2 ys) (hn1 : xs.length ≤ 9223372036854775807) (_hn2 : ys.length ≤ 9223372036854775807) :
    Calls Try.prog 5 #[.slice A1 xs.length c1, .slice A2 ys.length c2] w fun e w' => e = .returned (.bool (decide (xs = ys))) ∧ ∃ n, w' = w.drewN n := by
  by_cases hl : xs.length = ys.length
  · have HL := Lib.hid hl
    have hlb : ((xs.length : Int) != (ys.length : Int)) = false := by rw [bne_eq_false_iff_eq]; omega
    clear hl
    go_enter Try.func5, Try.ntmps5
    go_wp2
    go_loopw [5] (fun i wr => ∃ (k n : Nat), i = .int .i64 k ∧ k ≤ xs.length ∧ Hid (xs.take k = ys.take k) ∧ wr = w.drewN n) (fun i _ => xs.length - (intOf i).toNat)
    case atStart => exact ⟨0, 0, rfl, by omega, rfl, rfl⟩
    case round =>
      obtain ⟨k, n, rfl, hk, ht, rfl⟩ := hrel
      by_cases hlt : k < xs.length
      · have hlt2 : k < ys.length := by have := HL.out; omega
        obtain ⟨b1, o1, rfl, _, e1⟩ := ints_at' h1 (List.getElem?_eq_getElem hlt)
        obtain ⟨b2, o2, rfl, _, e2⟩ := ints_at' h2 (List.getElem?_eq_getElem hlt2)
        have T1 := Lib.hid (take_succ_eq (List.getElem?_eq_getElem hlt))
        have T2 := Lib.hid (take_succ_eq (List.getElem?_eq_getElem hlt2))
        have G1 := Lib.hid (List.getElem?_eq_getElem hlt)
        have G2 := Lib.hid (List.getElem?_eq_getElem hlt2)
        generalize xs[k] = x at e1 T1 G1
        generalize ys[k] = y at e2 T2 G2
        go_wp2_with fail
        go_quiet (fail)
        go_wp2
        · have hxy : (x != y) = true := by assumption
          go_ret
          refine ⟨ret_bool ?_, _, World.drewN_drewN _ _ _⟩
          symm
          rw [decide_eq_false_iff_not]
          intro e
          have g1 := G1.out
          rw [e, G2.out] at g1
          injection g1 with g1
          subst g1
          simp at hxy
        · have hxy : (x != y) = false := by assumption
          go_roundw
          case rel => exact ⟨k + 1, _, by go_num, by omega, by
              show xs.take (k + 1) = ys.take (k + 1)
              rw [T1.out, T2.out, ht.out, bne_eq_false_iff_eq.1 hxy], rfl⟩
          case measure => simp [intOf]; omega
      · go_wp2
        go_ret
        refine ⟨ret_bool ?_, _, rfl⟩
        symm
        rw [decide_eq_true_eq]
        have := ht.out
        have hl := HL.out
        rwa [List.take_of_length_le (by omega), List.take_of_length_le (by omega)] at this
  · have hlb : ((xs.length : Int) != (ys.length : Int)) = true := by rw [bne_iff_ne]; omega
    have HL := Lib.hid hl
    clear hl
    go_enter Try.func5, Try.ntmps5
    go_wp2
    go_ret
    refine ⟨ret_bool ?_, 0, rfl⟩
    symm
    rw [decide_eq_false_iff_not]
    intro e
    exact HL.out (by rw [e])

/-- Do they fit into what is left? -/
def fitsL : List RM → Int → Bool
  | [], _ => true
  | x :: r, left => if left < x.bytes then false else fitsL r (left - x.bytes)

set_option maxHeartbeats 400000 in
theorem fits_any (A : Option Addr) (c : Nat) (xs : List RM) (w : World) (B : Nat) (hB : B ≤ w.heap.size) (hx : Runs w B A xs) (hn : xs.length ≤ 100) (hp : ∀ x ∈ xs, 0 ≤ x.bytes) :
    Calls Try.prog 10 #[.slice A xs.length c] w fun e w' => e = .returned (.bool (fitsL xs 16777216)) ∧ Below w.heap.size w w' := by
  go_enter Try.func10, Try.ntmps10
  go_wp2
  go_loopw [3, 8] (fun l i wr => ∃ (k : Nat) (left : Int), i = .int .i64 k ∧ k ≤ xs.length ∧ l = .int .i64 left ∧ 0 ≤ left ∧ left ≤ 16777216 ∧ Hid (fitsL (xs.drop k) left = fitsL xs 16777216) ∧ Below w.heap.size w wr) (fun _ i _ => xs.length - (intOf i).toNat)
  case atStart => exact ⟨0, 16777216, rfl, by omega, rfl, by omega, by omega, rfl, Below.refl _ _⟩
  case round =>
    obtain ⟨k, left, rfl, hk, rfl, hl0, hl1, hf, hb⟩ := hrel
    by_cases hlt : k < xs.length
    · obtain ⟨b, o, rfl, _, c0, c1, c2, c3, c4, c5, c6, c7⟩ := runs_at (hx.below (hb.mono hB)) (List.getElem?_eq_getElem hlt)
      have hpk := hp xs[k] (List.getElem_mem hlt)
      have HX := Lib.hid (List.drop_eq_getElem_cons hlt)
      generalize xs[k] = x at c0 c1 c2 c3 c4 c5 c6 c7 hpk HX
      go_wp2
      · go_ret
        have h1 : left < x.bytes := by assumption
        refine ⟨ret_bool ?_, hb.alloc hb.size _⟩
        have := hf.out
        rwa [HX.out, fitsL, if_pos h1] at this
      · have h1 : ¬ left < x.bytes := by omega
        go_roundw
        case rel => exact ⟨k + 1, left - x.bytes, by go_num, by omega, rfl, by omega, by omega, by
            have := hf.out
            rw [HX.out, fitsL, if_neg h1] at this
            exact this, hb.alloc hb.size _⟩
        case measure => simp [intOf]; omega
    · have HZ := Lib.hid (show xs.drop k = [] from List.drop_eq_nil_of_le (by omega))
      go_wp2
      go_ret
      exact ⟨ret_bool (by have := hf.out; rwa [HZ.out, fitsL] at this), hb⟩

/-! sound -/
theorem bool_zero (w : World) : (zeroValue 4).run Try.prog w = .ok (.bool false) w := by kernel_rfl
theorem keyed3 : Maps.Keyed Try.prog 3 := Maps.int_keyed Try.underlying3

def soundL : List RM → List Int → Bool
  | [], _ => true
  | x :: r, seen => if x.num < 1 then false else if x.bytes < 0 then false else if seen.contains x.num then false else soundL r (x.num :: seen)

theorem wf_i64 {n : Int} (h1 : -9223372036854775808 ≤ n) (h2 : n ≤ 9223372036854775807) : (Lit.int .i64 n).wf = true := WalkArith.wf_i64 ⟨h1, h2⟩

set_option maxHeartbeats 1000000 in
theorem sound_any (A : Option Addr) (c : Nat) (xs : List RM) (w : World) (B : Nat) (hB : B ≤ w.heap.size) (hx : Runs w B A xs) (hn : xs.length ≤ 9223372036854775807) (hok : ∀ x ∈ xs, x.ok) :
    Calls Try.prog 9 #[.slice A xs.length c] w fun e w' => e = .returned (.bool (decide (xs.length ≤ 64) && soundL xs [])) ∧ Below w.heap.size w w' := by
  by_cases hl : xs.length ≤ 64
  · have hmm := @run_makeMap Try.prog
    have HL := Lib.hid hl
    go_enter Try.func9, Try.ntmps9
    go_wp2
    go_loopw [12] (fun i wr => ∃ (k : Nat) (seen : List Int), i = .int .i64 k ∧ k ≤ xs.length ∧ Hid (soundL (xs.drop k) seen = soundL xs []) ∧ BSet Try.prog 3 4 wr w.heap.size k seen ∧ Below w.heap.size w wr) (fun i _ => xs.length - (intOf i).toNat)
    case atStart => exact ⟨0, [], rfl, by omega, rfl, BSet.made w, (Below.refl _ _).alloc (Nat.le_refl _) _⟩
    case round =>
      obtain ⟨k, seen, rfl, hk, hf, hset, hb⟩ := hrel
      have hbl := hset.lt
      by_cases hlt : k < xs.length
      · obtain ⟨b, o, rfl, _, c0, c1, c2, c3, c4, c5, c6, c7⟩ := runs_at (hx.below (hb.mono hB)) (List.getElem?_eq_getElem hlt)
        have HX := Lib.hid (List.drop_eq_getElem_cons hlt)
        obtain ⟨k1, k2, _, _⟩ := hok xs[k] (List.getElem_mem hlt)
        generalize xs[k] = x at c0 c1 c2 c3 c4 c5 c6 c7 HX k1 k2
        have hw := wf_i64 k1 k2
        have hlook := fun o => (hset.alloc o).look (t := 39) keyed3 Try.underlying3 Try.underlying39 Try.underlying4 (bool_zero _) x.num hw
        have HF := Lib.hid (show soundL (x :: xs.drop (k + 1)) seen = soundL xs [] by rw [← HX.out]; exact hf.out)
        clear hf
        by_cases g1 : x.num < 1
        · go_wp2
          go_ret
          refine ⟨ret_bool ?_, hb.alloc hb.size _⟩
          rw [← HF.out, soundL, if_pos g1]
          simp
        have g1' : ¬ x.num < 1 := g1
        by_cases g2 : x.bytes < 0
        · go_wp2
          go_ret
          refine ⟨ret_bool ?_, hb.alloc hb.size _⟩
          rw [← HF.out, soundL, if_neg (by omega), if_pos g2]
        cases hc : seen.contains x.num
        · have HC := Lib.hid hc
          simp only [hc] at hlook
          clear hc
          go_wp2_with (at_mapUpdate; refine wp_put _ rfl _ _ _ 39 rfl 3 4 keyed3 Try.underlying3 Try.underlying39 Try.underlying4 w.heap.size k seen rfl (hset.alloc _) (by unfold maxLen; omega) x.num hw rfl rfl ?_; intro w1 hset1 hg1)
          go_roundw
          case rel => exact ⟨k + 1, x.num :: seen, by go_num, by omega, by
              show _ = _
              rw [← HF.out, soundL, if_neg (by omega), if_neg (by omega), HC.out]; rfl, hset1, (hb.alloc hb.size _).grown hg1 (by simp; have := hb.size; omega) (by intro k hk; injection hk with hk; omega)⟩
          case measure => simp [intOf]; omega
        · have HC := Lib.hid hc
          simp only [hc] at hlook
          clear hc
          go_wp2
          go_ret
          refine ⟨ret_bool ?_, hb.alloc hb.size _⟩
          rw [← HF.out, soundL, if_neg (by omega), if_neg (by omega), HC.out]
          simp
      · have HZ := Lib.hid (show xs.drop k = [] from List.drop_eq_nil_of_le (by omega))
        go_wp2
        go_ret
        refine ⟨ret_bool ?_, hb⟩
        rw [← hf.out, HZ.out]
        simp [soundL, HL.out]
  · go_enter Try.func9, Try.ntmps9
    go_wp2
    go_ret
    refine ⟨ret_bool ?_, Below.refl _ _⟩
    simp [hl]
end Go.Proofs.Ytgeohmfbodlgeaa
