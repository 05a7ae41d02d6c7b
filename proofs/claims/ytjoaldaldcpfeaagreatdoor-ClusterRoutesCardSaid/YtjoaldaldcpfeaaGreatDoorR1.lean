/-
  raft.New at an empty state.
-/
import Derived.Test.YtjoaldaldcpfeaaGreatDoorC6
import Derived.Test.YtjoaldaldcpfeaaGreatDoorD1
import Derived.BigRegion
import Derived.Deep.RegionHeld3
namespace Go.Proofs.YtjoaldaldcpfeaaGreatDoor
open Go.RowKit

theorem tmod_lo (a : Int) {m : Int} (hm : 1 ≤ m) : -m < a.tmod m := by
  have := Int.tmod_def a m
  rcases Int.lt_or_le a 0 with h | h
  · have h1 : (-a).tmod m < m := Int.tmod_lt_of_pos _ (by omega)
    rw [Int.neg_tmod] at h1; omega
  · have := Int.tmod_nonneg m h; omega
theorem tmod_hi (a : Int) {m : Int} (hm : 1 ≤ m) : a.tmod m < m := Int.tmod_lt_of_pos _ (by omega)

theorem draw_mod (a m : Int) : a.tmod m % m = a % m := by
  rw [Int.tmod_def]; exact Int.sub_mul_emod_self_left ..
theorem emod_lo (a : Int) {m : Int} (hm : 1 ≤ m) : 0 ≤ a % m := Int.emod_nonneg _ (by omega)
theorem emod_hi (a : Int) {m : Int} (hm : 1 ≤ m) : a % m < m := Int.emod_lt_of_pos _ (by omega)

def ixf (xs : List Int) (x : Int) : Int := if x ∈ xs then (xs.findIdx (· = x) : Nat) else -1

theorem ixf_hit {xs : List Int} {x : Int} {k : Nat} (hk : xs[k]? = some x) (hp : ∀ j, j < k → xs[j]? ≠ some x) : ixf xs x = k := by
  have hm : x ∈ xs := List.mem_of_getElem? hk
  unfold ixf
  rw [if_pos hm]
  congr 1
  have hkl := (List.getElem?_eq_some_iff.1 hk)
  obtain ⟨hl, he⟩ := hkl
  rw [List.findIdx_eq hl]
  refine ⟨by simp [he], fun j hj => ?_⟩
  have := hp j hj
  rw [List.getElem?_eq_getElem (by omega)] at this
  simpa using this
theorem ixf_miss {xs : List Int} {x : Int} (hp : ∀ j, j < xs.length → xs[j]? ≠ some x) : ixf xs x = -1 := by
  unfold ixf
  rw [if_neg]
  intro hm
  obtain ⟨j, hj, e⟩ := List.getElem_of_mem hm
  exact hp j hj (by rw [List.getElem?_eq_getElem hj, e])

set_option maxHeartbeats 1000000 in
theorem index_any (A : Option Addr) (n cp : Nat) (xs : List Int) (x : Int) (w : World) (hr : Row encI 1 w w.heap.size A xs) (hn : n = xs.length) (hl : xs.length ≤ 1000000) :
    Calls Tryz.prog 139 #[.slice A n cp, .int .i64 x] w fun e w' => e = .returned (.int .i64 (ixf xs x)) ∧ w' = w := by
  subst hn
  go_enter Tryz.func139, Tryz.ntmps139
  go_wp2
  go_loop [5, 8] (fun _ i => ∃ k : Nat, k ≤ xs.length ∧ i = .int .i64 k ∧ ∀ j, j < k → xs[j]? ≠ some x) (fun _ i => xs.length - (intOf i).toNat)
  case atStart => exact ⟨0, Nat.zero_le _, rfl, fun j hj => absurd hj (Nat.not_lt_zero _)⟩
  case round =>
    obtain ⟨k, hk, rfl, hp⟩ := hrel
    have HP := Lib.hid hp
    clear hp
    by_cases hlt : k < xs.length
    · have hg := List.getElem?_eq_getElem hlt
      obtain ⟨ba, o, rfl, _, c0⟩ := ints_at hr hg
      have HG := Lib.hid hg
      clear hg
      generalize xs[k] = y at c0 HG
      by_cases hy : x = y
      · subst hy
        have HX := Lib.hid (ixf_hit HG.out HP.out)
        go_wp2
        go_ret
        exact ⟨by rw [HX.out]; rfl, rfl⟩
      · have hyb : (x == y) = false := by simpa using hy
        go_wp2
        go_round
        case rel =>
          refine ⟨k + 1, by omega, by go_num, fun j hj => ?_⟩
          rcases Nat.lt_or_ge j k with h | h
          · exact HP.out j h
          · have : j = k := by omega
            subst this; rw [HG.out]; simpa using fun e : y = x => hy e.symm
        case measure => simp [intOf]; omega
    · have hkl : k = xs.length := by omega
      have HX := Lib.hid (ixf_miss (xs := xs) (x := x) (fun j hj => HP.out j (by omega)))
      clear hkl
      go_wp2
      go_ret
      exact ⟨by rw [HX.out]; rfl, rfl⟩

set_option maxRecDepth 100000 in
theorem contains_any (A : Option Addr) (n cp : Nat) (xs : List Int) (x : Int) (w : World) (hr : Row encI 1 w w.heap.size A xs) (hn : n = xs.length) (hl : xs.length ≤ 1000000) :
    Calls Tryz.prog 89 #[.slice A n cp, .int .i64 x] w fun e w' => e = .returned (.bool (decide (x ∈ xs))) ∧ w' = w := by
  subst hn
  by_cases hx : x ∈ xs
  · have h0 : 0 ≤ ixf xs x := by unfold ixf; rw [if_pos hx]; omega
    go_enter Tryz.func89, Tryz.ntmps89
    go_wp2_with (go_at_call 139; refine (index_any A _ cp xs x _ hr rfl hl).mono ?_; rintro e w' ⟨rfl, rfl⟩)
    go_ret
    exact ⟨by simp [hx], rfl⟩
  · have h0 : ixf xs x < 0 := by unfold ixf; rw [if_neg hx]; omega
    go_enter Tryz.func89, Tryz.ntmps89
    go_wp2_with (go_at_call 139; refine (index_any A _ cp xs x _ hr rfl hl).mono ?_; rintro e w' ⟨rfl, rfl⟩)
    go_ret
    exact ⟨by simp [hx, h0], rfl⟩


set_option maxRecDepth 100000 in
theorem goes_none (i t m : Int) (w : World) : Calls Tryz.prog 90 #[.slice none 0 0, .int .i64 i, .int .i64 t, .int .i64 m] w fun e w' => e = .returned (.bool true) ∧ w' = w := by
  go_enter Tryz.func90, Tryz.ntmps90
  go_wp2_with (fail)
  go_loopw [1, 2, 10, 13] (fun a b _ j wr => a = .int .i64 i ∧ b = .int .i64 t ∧ j = .int .i64 0 ∧ wr = w) (fun _ _ _ _ _ => 0)
  case atStart => exact ⟨rfl, rfl, rfl, rfl⟩
  case round =>
    obtain ⟨rfl, rfl, rfl, rfl⟩ := hrel
    go_wp2_with (fail)
    go_ret
    exact ⟨rfl, rfl⟩

set_option maxRecDepth 100000 in
theorem copied_none (w : World) : Calls Tryz.prog 55 #[.slice none 0 0] w fun e w' => e = .returned (.slice none 0 0) ∧ w' = w := by
  go_enter Tryz.func55, Tryz.ntmps55
  go_wp2_with (fail)
  go_loopw [3, 8] (fun l j wr => l = .slice none 0 0 ∧ j = .int .i64 0 ∧ wr = w) (fun _ _ _ => 0)
  case atStart => exact ⟨rfl, rfl, rfl⟩
  case round =>
    obtain ⟨rfl, rfl, rfl⟩ := hrel
    go_wp2_with (fail)
    go_ret
    exact ⟨rfl, rfl⟩

structure PeersOK (id : Int) (peers : List Int) : Prop where
  len : peers.length ≤ 7
  rng : ∀ p ∈ peers, 1 ≤ p ∧ p ≤ 7
  rise : peers.Pairwise (· < ·)
  mem : id ∈ peers
def raftOK (least most beatc batch : Int) : Prop := (1 ≤ beatc ∧ beatc < least ∧ least ≤ most ∧ most ≤ 1000) ∧ (1 ≤ batch ∧ batch ≤ 16)
instance (a b c d : Int) : Decidable (raftOK a b c d) := by unfold raftOK; infer_instance
theorem bcell {W w1 : World} (hb : Below W.heap.size W w1) : (∀ b o, b < W.heap.size → w1.cell? ⟨b, o, none⟩ = W.cell? ⟨b, o, none⟩) ∧ (∀ b o, b < W.heap.size → w1.frozen? ⟨b, o, none⟩ = W.frozen? ⟨b, o, none⟩) :=
  ⟨fun b o h => hb.cell (p := ⟨b, o, none⟩) h, fun b o h => hb.frozen (p := ⟨b, o, none⟩) h⟩

set_option maxRecDepth 100000 in
set_option maxHeartbeats 1000000 in
theorem configured_any (id : Int) (A : Option Addr) (n c : Nat) (peers : List Int) (least most beatc batch : Int) (w : World) (hx : Row encI 1 w w.heap.size A peers) (hn : n = peers.length) (hok : PeersOK id peers) :
    Calls Tryz.prog 53 #[.agg #[.int .i64 id, .slice A n c, .int .i64 least, .int .i64 most, .int .i64 beatc, .int .i64 batch]] w fun e w' => e = .returned (.bool (decide (raftOK least most beatc batch))) ∧ Below w.heap.size w w' := by
  subst hn
  have HOK := Lib.hid hok
  have k1 := hok.len
  clear hok
  have hm : decide (id ∈ peers) = true := by simpa using HOK.out.mem
  have hx1 : ∀ o : Obj, Row encI 1 (w.alloc o) w.heap.size A peers := fun o => hx.alloc (Nat.le_refl _) o
  have hbw : ∀ o : Obj, Below w.heap.size w (w.alloc o) := fun o => (Below.refl _ _).alloc (Nat.le_refl _) o
  go_enter Tryz.func53, Tryz.ntmps53
  go_wp2
  go_loop [3, 4, 9] (fun _ _ i => ∃ k : Nat, k ≤ peers.length ∧ i = .int .i64 k) (fun _ _ i => peers.length - (intOf i).toNat)
  case atStart => exact ⟨0, Nat.zero_le _, rfl⟩
  case round =>
    obtain ⟨k, hk, rfl⟩ := hrel
    by_cases hlt : k < peers.length
    · have hg := List.getElem?_eq_getElem hlt
      obtain ⟨ba, o, rfl, hba, c0⟩ := ints_at (hx1 (.cells #[.int .i64 id, .slice A peers.length c, .int .i64 least, .int .i64 most, .int .i64 beatc, .int .i64 batch] 28)) hg
      have hy := HOK.out.rng _ (List.getElem_mem hlt)
      have hyb : decide (1 ≤ peers[k] ∧ peers[k] ≤ 7) = true := by simpa using hy
      rcases Nat.eq_zero_or_pos k with hz | hz
      · subst hz
        clear hg
        generalize peers[0] = y at c0 hy hyb
        simp only [Nat.add_zero] at c0
        go_wp2_with (go_at_call 88; refine (rwithin_any _ _ _ _).mono ?_; rintro e w' ⟨rfl, rfl⟩)
        go_round
        case rel => exact ⟨1, by omega, rfl⟩
        case measure => simp [intOf]; omega
      · have hg2 := List.getElem?_eq_getElem (show k - 1 < peers.length by omega)
        have hr := (List.pairwise_iff_getElem.1 HOK.out.rise) (k - 1) k (by omega) hlt (by omega)
        obtain ⟨ba', o', e', _, c3⟩ := ints_at (hx1 (.cells #[.int .i64 id, .slice (some ⟨ba, o, none⟩) peers.length c, .int .i64 least, .int .i64 most, .int .i64 beatc, .int .i64 batch] 28)) hg2
        injection e' with e'
        injection e' with e1 e2
        subst e1 e2
        clear hg hg2
        generalize peers[k] = y at c0 hy hyb hr
        generalize peers[k - 1] = z at c3 hr
        have hz' : (0 : Int) ≤ (k : Int) - 1 := by omega
        have hz2 : ((k : Int) - 1).toNat = k - 1 := by omega
        go_wp2_with (go_at_call 88; refine (rwithin_any _ _ _ _).mono ?_; rintro e w' ⟨rfl, rfl⟩)
        go_round
        case rel => exact ⟨k + 1, by omega, by go_num⟩
        case measure => simp [intOf]; omega
    · by_cases h1 : 1 ≤ beatc
      · by_cases h2 : beatc < least
        · by_cases h3 : least ≤ most
          · by_cases h4 : most ≤ 1000
            · have HR := Lib.hid (show decide (raftOK least most beatc batch) = decide (1 ≤ batch ∧ batch ≤ 16) by unfold raftOK; simp [h1, h2, h3, h4])
              go_wp2_with (first
                | (go_at_call 88; refine (rwithin_any _ _ _ _).mono ?_; rintro e w' ⟨rfl, rfl⟩)
                | (go_at_call 89; refine (contains_any A _ c peers id _ ((hx1 _).more (by simp)) rfl (by omega)).mono ?_; rintro e w' ⟨rfl, rfl⟩))
              go_ret
              exact ⟨by rw [HR.out]; exact ret_bool (by simp), hbw _⟩
            · have HR := Lib.hid (show decide (raftOK least most beatc batch) = false by unfold raftOK; simp [h4])
              go_wp2_with (fail)
              go_ret
              exact ⟨by rw [HR.out]; rfl, hbw _⟩
          · have HR := Lib.hid (show decide (raftOK least most beatc batch) = false by unfold raftOK; simp [h3])
            go_wp2_with (fail)
            go_ret
            exact ⟨by rw [HR.out]; rfl, hbw _⟩
        · have HR := Lib.hid (show decide (raftOK least most beatc batch) = false by unfold raftOK; simp [h2])
          go_wp2_with (fail)
          go_ret
          exact ⟨by rw [HR.out]; rfl, hbw _⟩
      · have HR := Lib.hid (show decide (raftOK least most beatc batch) = false by unfold raftOK; simp [h1])
        go_wp2_with (fail)
        go_ret
        exact ⟨by rw [HR.out]; rfl, hbw _⟩

set_option maxRecDepth 100000 in
set_option maxHeartbeats 2000000 in
theorem stated_none (cid : Int) (pA : Option Addr) (pn pc : Nat) (least most beatc batch : Int) (w : World) :
    Calls Tryz.prog 54 #[.agg #[.int .i64 cid, .slice pA pn pc, .int .i64 least, .int .i64 most, .int .i64 beatc, .int .i64 batch], .agg #[.int .i64 0, .int .i64 0, .int .i64 0, .int .i64 0, .int .i64 0, .slice none 0 0]] w
      fun e w' => e = .returned (.bool true) ∧ Below w.heap.size w w' := by
  have hal : ∀ o1 o2 o3 : Obj, Below w.heap.size w (((w.alloc o1).alloc o2).alloc o3) := fun o1 o2 o3 => (((Below.refl _ _).alloc (Nat.le_refl _) _).alloc (by simp) _).alloc (by simp; omega) _
  go_enter Tryz.func54, Tryz.ntmps54
  go_wp2_with (first
      | (go_at_call 88; refine (rwithin_any _ _ _ _).mono ?_; rintro e w' ⟨rfl, rfl⟩)
      | (go_at_call 90; refine (goes_none _ _ _ _).mono ?_; rintro e w' ⟨rfl, rfl⟩))
  go_ret
  exact ⟨rfl, hal _ _ _⟩

end Go.Proofs.YtjoaldaldcpfeaaGreatDoor
