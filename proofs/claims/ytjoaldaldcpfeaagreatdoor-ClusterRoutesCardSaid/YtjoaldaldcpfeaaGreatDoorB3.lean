/-
  sort.Search over the closure of cluster.Route; cluster.Route.
-/
import Derived.Test.YtjoaldaldcpfeaaGreatDoorB2
namespace Go.Proofs.YtjoaldaldcpfeaaGreatDoor
open Go.RowKit

abbrev rclV (g h : Nat) : Value := .func (.func 26) #[] #[.pointer (some ⟨g, 0, none⟩), .pointer (some ⟨h, 0, none⟩)]
def Behind (ss : List (List Int)) (row : List Int) (j : Nat) : Prop := ∀ i s, j ≤ i → ss[i]? = some s → lt8 row s
structure RInv (ss : List (List Int)) (row : List Int) (i j : Nat) : Prop where
  lo : RefInv ss row i
  hi : Behind ss row j
theorem RInv.up {ss : List (List Int)} {row s : List Int} {i j h : Nat} (ho : splitsOK ss) (r : RInv ss row i j) (hs : ss[h]? = some s) (hn : ¬ lt8 row s) : RInv ss row (h + 1) j :=
  ⟨fun k t hk ht hlt => by
    have : k ≤ h := by omega
    exact hn (lt_up ho this ht hs hlt), r.hi⟩
theorem RInv.down {ss : List (List Int)} {row s : List Int} {i j h : Nat} (ho : splitsOK ss) (r : RInv ss row i j) (hs : ss[h]? = some s) (hn : lt8 row s) : RInv ss row i h :=
  ⟨r.lo, fun _k _t hk ht => lt_up ho hk hs ht hn⟩

set_option maxRecDepth 100000 in
set_option maxHeartbeats 4000000 in
theorem search_any (g h X n c rc : Nat) (A rA : Option Addr) (ps : List (BR × List Int)) (row : List Int) (w : World) (hx : w.cell? ⟨g, 0, none⟩ = some (.pointer (some ⟨X, 0, none⟩))) (hr0 : w.cell? ⟨h, 0, none⟩ = some (.slice rA row.length rc))
    (hs : w.cell? ⟨X, 3, none⟩ = some (.slice A ps.length c)) (hh : Rows2 w w.heap.size A ps) (hr : Bytes w w.heap.size rA row) (ho : splitsOK (ps.map (·.2))) (hn : n = ps.length) :
    Calls Tryz.prog 25 #[.int .i64 n, rclV g h] w fun e w' => ∃ k : Nat, e = .returned (.int .i64 k) ∧ TabOf (ps.map (·.2)) row k ∧ ∃ j, w' = w.drewN j := by
  subst hn
  have hl7 : ps.length ≤ 7 := by have := ho.len; simpa using this
  have HO := Lib.hid ho
  have HC : Hid (∀ (q i : Nat) (p : BR × List Int), ps[i]? = some p → Calls Tryz.prog 26 #[.int .i64 i, .pointer (some ⟨g, 0, none⟩), .pointer (some ⟨h, 0, none⟩)] (w.drewN q) fun e w' => e = .returned (.bool (decide (0 < cmp3 p.2 row))) ∧ ∃ j, w' = (w.drewN q).drewN j) :=
    Lib.hid fun q i p hp => rcl_any i g h X c rc A rA ps p row (w.drewN q) hx hr0 hs (hh.keep fun _ _ => rfl) hp (hr.drewN q)
  clear hx hr0 hs hh hr ho
  go_enter Tryz.func25, Tryz.ntmps25
  go_wp2_with (fail)
  go_loopw [5, 6, 7] (fun i j _ wr => ∃ a b nq : Nat, i = .int .i64 a ∧ j = .int .i64 b ∧ a ≤ b ∧ b ≤ ps.length ∧ wr = w.drewN nq ∧ Hid (RInv (ps.map (·.2)) row a b)) (fun i j _ _ => (intOf j - intOf i).toNat)
  case atStart => exact ⟨0, ps.length, 0, rfl, rfl, by omega, by omega, rfl, Lib.hid ⟨fun _ _ h => absurd h (Nat.not_lt_zero _), fun i s hi hs => absurd (List.getElem?_eq_some_iff.1 hs).1 (by rw [List.length_map]; omega)⟩⟩
  case round =>
    obtain ⟨a, b, nq, rfl, rfl, hab, hb, hw, hU⟩ := hrel
    have HW := Lib.hid hw
    clear hw
    by_cases hlt : a < b
    · have hh7 : (a + b) / 2 < ps.length := by omega
      obtain ⟨p, hpk⟩ : ∃ p, ps[(a + b) / 2]? = some p := ⟨_, List.getElem?_eq_getElem hh7⟩
      go_wp2_with (fail)
      have HM := Lib.hid (show (ps.map (·.2))[(a + b) / 2]? = some p.2 by rw [List.getElem?_map, hpk]; rfl)
      have e : ((a : Int) + b) / 2 = (((a + b) / 2 : Nat) : Int) := by omega
      rw [e]
      clear e
      have HK := HC.out nq _ p hpk
      rw [← HW.out] at HK
      refine HK.mono ?_
      rintro e w1 ⟨rfl, q1, hw1⟩
      have HW1 := Lib.hid (show w1 = w.drewN (nq + q1) by rw [hw1, HW.out, World.drewN_drewN])
      clear hw1 HK hpk
      generalize hm : (a + b) / 2 = m at *
      have b1 : a ≤ m := by omega
      have b2 : m < b := by omega
      clear hm
      by_cases hc : lt8 row p.2
      · have hd : decide (0 < cmp3 p.2 row) = true := by simpa using (cmp3_pos p.2 row).2 hc
        have HT := Lib.hid (RInv.down HO.out hU.out HM.out hc)
        rw [hd]
        clear hd hc
        go_wp2_with (fail)
        exact ⟨⟨a, m, _, rfl, rfl, by omega, by omega, HW1.out, HT⟩, by simp [intOf]; omega⟩
      · have hd : decide (0 < cmp3 p.2 row) = false := by simpa using fun h => hc ((cmp3_pos p.2 row).1 h)
        have HT := Lib.hid (RInv.up HO.out hU.out HM.out hc)
        rw [hd]
        clear hd hc
        go_wp2_with (fail)
        exact ⟨⟨m + 1, b, _, by simp, rfl, by omega, by omega, HW1.out, HT⟩, by simp [intOf]; omega⟩
    · obtain rfl : a = b := by omega
      have HT := Lib.hid (show TabOf (ps.map (·.2)) row a from ⟨by rw [List.length_map]; omega, hU.out.lo, hU.out.hi⟩)
      go_wp2_with (fail)
      go_ret
      exact ⟨a, rfl, HT.out, nq, HW.out⟩

set_option maxRecDepth 100000 in
set_option maxHeartbeats 4000000 in
/-- The cluster's Route. -/
theorem route_any (X rn c rc : Nat) (A rA : Option Addr) (ps : List (BR × List Int)) (row : List Int) (w : World) (hs : w.cell? ⟨X, 3, none⟩ = some (.slice A ps.length c)) (hX : X < w.heap.size) (hh : Rows2 w w.heap.size A ps) (hr : Bytes w w.heap.size rA row) (hrn : rn = row.length) (ho : splitsOK (ps.map (·.2))) :
    Calls Tryz.prog 10 #[.pointer (some ⟨X, 0, none⟩), .slice rA rn rc] w fun e w' => ∃ k : Nat, e = .returned (.int .i64 k) ∧ TabOf (ps.map (·.2)) row k ∧ Below w.heap.size w w' := by
  subst hrn
  have b1 := below_alloc1 w (.cells #[.pointer (some ⟨X, 0, none⟩)] 40)
  have b2 := b1.alloc (by simp) (.cells #[.slice rA row.length rc] 48)
  have c1 : ((w.alloc (.cells #[.pointer (some ⟨X, 0, none⟩)] 40)).alloc (.cells #[.slice rA row.length rc] 48)).cell? ⟨w.heap.size, 0, none⟩ = some (.pointer (some ⟨X, 0, none⟩)) := cells1 (block_alloc (World.alloc_at w _) _)
  have c2 : ((w.alloc (.cells #[.pointer (some ⟨X, 0, none⟩)] 40)).alloc (.cells #[.slice rA row.length rc] 48)).cell? ⟨w.heap.size + 1, 0, none⟩ = some (.slice rA row.length rc) := cells1 (box_at (by simp only [World.alloc_size]))
  have c3 : ((w.alloc (.cells #[.pointer (some ⟨X, 0, none⟩)] 40)).alloc (.cells #[.slice rA row.length rc] 48)).cell? ⟨X, 3, none⟩ = some (.slice A ps.length c) := (b2.cell (p := ⟨X, 3, none⟩) hX).trans hs
  have HC := Lib.hid (search_any w.heap.size (w.heap.size + 1) X ps.length c rc A rA ps row _ c1 c2 c3 ((hh.below b2).more b2.size) ((hr.below b2).more b2.size) ho rfl)
  have HB := Lib.hid b2
  clear b1 b2 hh hr ho hs
  have l1 := block_lt (show ((w.alloc (.cells #[.pointer (some ⟨X, 0, none⟩)] 40)).alloc (.cells #[.slice rA row.length rc] 48)).heap[w.heap.size]? = some (.cells #[.pointer (some ⟨X, 0, none⟩)] 40 (0, 0)) from block_alloc (World.alloc_at w _) _)
  go_enter Tryz.func10, Tryz.ntmps10
  go_wp2_with (fail)
  refine HC.out.mono ?_
  rintro e w1 ⟨k, rfl, hk, j, hw1⟩
  have HK := Lib.hid hk
  have HW := Lib.hid hw1
  clear hk hw1 c1 c2 c3 l1
  go_wp2_with (fail)
  go_ret
  exact ⟨k, rfl, HK.out, by rw [HW.out]; exact below_drewN' HB.out _⟩
end Go.Proofs.YtjoaldaldcpfeaaGreatDoor
