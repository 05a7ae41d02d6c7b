/-
  The walks of strataref12's added, numbers, picked.
-/
import Derived.Test.YtgeohmfbodlgeaaW3
namespace Go.Proofs.Ytgeohmfbodlgeaa
open Go.RowKit

def addedL (a b : Int) : Int := if 1099511627776 < a ∨ 1099511627776 < b then 2199023255552 else a + b
theorem added_any (a b : Int) (w : World) (ha : 0 ≤ a) (hb : 0 ≤ b) : Calls Try.prog 15 #[.int .i64 a, .int .i64 b] w fun e w' => e = .returned (.int .i64 (addedL a b)) ∧ w = w' := by
  by_cases h1 : 1099511627776 < a
  · go_enter Try.func15, Try.ntmps15
    go_wp2
    go_ret
    exact ⟨ret_int (by simp [addedL, h1]), rfl⟩
  by_cases h2 : 1099511627776 < b
  · go_enter Try.func15, Try.ntmps15
    go_wp2
    go_ret
    exact ⟨ret_int (by simp [addedL, h2]), rfl⟩
  go_enter Try.func15, Try.ntmps15
  go_wp2
  go_ret
  exact ⟨ret_int (by unfold addedL; rw [if_neg (by omega)]), rfl⟩

set_option maxHeartbeats 1000000 in
theorem numbers_any (A : Option Addr) (c : Nat) (xs : List RM) (w : World) (hx : Runs w w.heap.size A xs) (hn : xs.length ≤ 100) :
    Calls Try.prog 16 #[.slice A xs.length c] w fun e w' => ∃ v, e = .returned v ∧ Own encI 1 3 w' w.heap.size v (xs.map (·.num)) ∧ Below w.heap.size w w' := by
  go_enter Try.func16, Try.ntmps16
  go_wp2
  go_loopw [3, 4] (fun l i wr => ∃ (k : Nat), i = .int .i64 k ∧ k ≤ xs.length ∧ Own encI 1 3 wr w.heap.size l ((xs.take k).map (·.num)) ∧ Below w.heap.size w wr) (fun _ i _ => xs.length - (intOf i).toNat)
  case atStart => exact ⟨0, rfl, by omega, Own.nil, Below.refl _ _⟩
  case round =>
    obtain ⟨k, rfl, hk, hown, hb⟩ := hrel
    by_cases hlt : k < xs.length
    · obtain ⟨ba, o, rfl, _, c0, c1, c2, c3, c4, c5, c6, c7⟩ := runs_at (hx.below hb) (List.getElem?_eq_getElem hlt)
      have HT := Lib.hid (take_succ_eq (List.getElem?_eq_getElem hlt))
      have hsz := hb.size
      generalize xs[k] = x at c0 c1 c2 c3 c4 c5 c6 c7 HT
      have hle : ((xs.take k).map (·.num)).length ≤ k := by rw [List.length_map]; exact List.length_take_le _ _
      have HN := Lib.hid (show (xs.take (k + 1)).map (·.num) = (xs.take k).map (·.num) ++ [x.num] by rw [HT.out, List.map_append]; rfl)
      clear HT
      generalize (xs.take k).map (·.num) = ys at hown hle HN
      go_wp2_with (at_builtin; refine wp_app _ encI 1 rfl _ _ 25 rfl w.heap.size 3 8 Try.underlying25 info3 (by omega) len_I one_I _ ys rfl (hown.alloc _) _ _ 1 1 [x.num] rfl rfl (row_one_int _ _ _ rfl) (by simp; omega) (by simp; omega) (by simp; omega) ?_; intro v1 w1 hown1 hg1 hat1 _)
      have hb1 : Below w.heap.size w w1 := (hb.alloc hsz _).grown hg1 (by simp; omega) (fun j hj => (hown.lt j hj).1)
      go_roundw
      case rel => exact ⟨k + 1, by go_num, by omega, by rw [HN.out]; exact hown1, hb1⟩
      case measure => simp [intOf]; omega
    · have HZ := Lib.hid (show xs.take k = xs from List.take_of_length_le (by omega))
      go_wp2
      go_ret
      exact ⟨_, rfl, by have := hown; rwa [HZ.out] at this, hb⟩

def pk (l : List RM) (x : RM) : List Int := (l.filter fun y => y.num == x.num).map fun _ => x.num
def pickedL (xs l : List RM) : List Int := xs.flatMap (pk l)
theorem pk_snoc (l : List RM) (y x : RM) : pk (l ++ [y]) x = pk l x ++ if (y.num == x.num) = true then [x.num] else [] := by
  unfold pk
  rw [List.filter_append, List.map_append, List.filter_cons]
  split <;> simp
theorem pk_len (l : List RM) (x : RM) : (pk l x).length ≤ l.length := by
  unfold pk
  rw [List.length_map]
  exact List.length_filter_le _ _
theorem pickedL_len (l : List RM) : ∀ xs : List RM, (pickedL xs l).length ≤ xs.length * l.length
  | [] => by simp [pickedL]
  | x :: r => by
    have := pickedL_len l r
    have := pk_len l x
    unfold pickedL at *
    rw [List.flatMap_cons, List.length_append, List.length_cons, Nat.add_mul]
    omega

set_option maxHeartbeats 2000000 in
theorem picked_any (A1 A2 : Option Addr) (c1 c2 : Nat) (xs l : List RM) (w : World) (hx : Runs w w.heap.size A1 xs) (hl : Runs w w.heap.size A2 l) (hn1 : xs.length ≤ 100) (hn2 : l.length ≤ 100) :
    Calls Try.prog 18 #[.slice A1 xs.length c1, .slice A2 l.length c2] w fun e w' => ∃ v, e = .returned v ∧ Own encI 1 3 w' w.heap.size v (pickedL xs l) ∧ Below w.heap.size w w' := by
  go_enter Try.func18, Try.ntmps18
  go_wp2
  go_loopw [5, 6] (fun v i wr => ∃ (k : Nat), i = .int .i64 k ∧ k ≤ xs.length ∧ Own encI 1 3 wr w.heap.size v (pickedL (xs.take k) l) ∧ Below w.heap.size w wr) (fun _ i _ => xs.length - (intOf i).toNat)
  case atStart => exact ⟨0, rfl, by omega, Own.nil, Below.refl _ _⟩
  case round =>
    obtain ⟨k, rfl, hk, hown, hb⟩ := hrel
    by_cases hlt : k < xs.length
    · have hkk := Lib.hid (List.getElem?_eq_getElem hlt)
      have HT := Lib.hid (take_succ_eq (List.getElem?_eq_getElem hlt))
      have hsz := hb.size
      generalize xs[k] = x at HT hkk
      have hle : (pickedL (xs.take k) l).length ≤ 10000 := by
        have h1 := pickedL_len l (xs.take k)
        have h2 : (xs.take k).length ≤ 100 := by rw [List.length_take]; omega
        have h3 := Nat.mul_le_mul h2 hn2
        omega
      have HN := Lib.hid (show pickedL (xs.take (k + 1)) l = pickedL (xs.take k) l ++ pk l x by rw [HT.out]; unfold pickedL; rw [List.flatMap_append]; simp)
      clear HT
      generalize pickedL (xs.take k) l = ys at hown hle HN
      obtain ⟨wo, rfl⟩ : ∃ wo : World, wo = wr := ⟨_, rfl⟩
      go_wp2
      go_loopw [5, 7] (fun v i wi => ∃ (j : Nat), i = .int .i64 j ∧ j ≤ l.length ∧ Own encI 1 3 wi w.heap.size v (ys ++ pk (l.take j) x) ∧ Below w.heap.size w wi) (fun _ i _ => l.length - (intOf i).toNat)
      case atStart => exact ⟨0, rfl, by omega, by simpa [pk] using hown, hb⟩
      case round =>
        obtain ⟨j, rfl, hj, hown, hb⟩ := hrel
        have hsz := hb.size
        by_cases hjl : j < l.length
        · obtain ⟨ba, o, e1, _, c0, _⟩ := runs_at (hx.below hb) hkk.out
          obtain ⟨bb, oo, e2, _, d0, _⟩ := runs_at (hl.below hb) (List.getElem?_eq_getElem hjl)
          subst e1 e2
          have HT := Lib.hid (take_succ_eq (List.getElem?_eq_getElem hjl))
          generalize l[j] = y at d0 HT
          have hle2 := pk_len (l.take j) x
          rw [List.length_take] at hle2
          have HP := Lib.hid (show pk (l.take (j + 1)) x = pk (l.take j) x ++ if (y.num == x.num) = true then [x.num] else [] by rw [HT.out]; exact pk_snoc _ _ _)
          clear HT
          generalize pk (l.take j) x = zs at hown hle2 HP
          cases hc : (y.num == x.num)
          · have HC := Lib.hid hc
            go_wp2_with fail
            go_quiet (fail)
            go_wp2
            go_roundw
            case rel => exact ⟨j + 1, by go_num, by omega, by rw [HP.out, HC.out]; simpa using hown.drewN _, below_drewN' hb _⟩
            case measure => simp [intOf]; omega
          · have HC := Lib.hid hc
            go_wp2_with fail
            go_quiet (fail)
            go_wp2_with (at_builtin; refine wp_app _ encI 1 rfl (.tmp 31) (.tmp 37) 25 rfl w.heap.size 3 8 Try.underlying25 info3 (by omega) len_I one_I _ (ys ++ zs) rfl ((hown.drewN _).alloc _) _ _ 1 1 [x.num] rfl rfl (row_one_int _ _ _ rfl) (by simp; omega) (by simp; omega) (by simp; omega) ?_; intro v1 w1 hown1 hg1 hat1 _)
            have hb1 : Below w.heap.size w w1 := ((below_drewN' hb _).alloc hsz _).grown hg1 (by simp; omega) (fun j hj => (hown.lt j hj).1)
            go_roundw
            case rel => exact ⟨j + 1, by go_num, by omega, by rw [HP.out, HC.out, ← List.append_assoc]; exact hown1, hb1⟩
            case measure => simp [intOf]; omega
        · have HZ := Lib.hid (show l.take j = l from List.take_of_length_le (by omega))
          go_wp2
          go_roundw
          case rel => exact ⟨k + 1, by go_num, by omega, by rw [HN.out]; have := hown; rwa [HZ.out] at this, hb⟩
          case measure => simp [intOf]; omega
    · have HZ := Lib.hid (show xs.take k = xs from List.take_of_length_le (by omega))
      go_wp2
      go_ret
      exact ⟨_, rfl, by have := hown; rwa [HZ.out] at this, hb⟩
end Go.Proofs.Ytgeohmfbodlgeaa
