/-
  raft.New at an empty state.
-/
import Derived.Test.YtjoaldaldcpfeaaGreatDoorR1
namespace Go.Proofs.YtjoaldaldcpfeaaGreatDoor
open Go.RowKit

theorem cells6 {w : World} {b : Nat} {a0 a1 a2 a3 a4 a5 : Value} {t : TypeId} (h : w.heap[b]? = some (.cells #[a0, a1, a2, a3, a4, a5] t (0, 0))) :
    w.cell? ⟨b, 0, none⟩ = some a0 ∧ w.cell? ⟨b, 1, none⟩ = some a1 ∧ w.cell? ⟨b, 2, none⟩ = some a2 ∧ w.cell? ⟨b, 3, none⟩ = some a3 ∧ w.cell? ⟨b, 4, none⟩ = some a4 ∧ w.cell? ⟨b, 5, none⟩ = some a5 :=
  ⟨cell_block h 0 _ rfl, cell_block h 1 _ rfl, cell_block h 2 _ rfl, cell_block h 3 _ rfl, cell_block h 4 _ rfl, cell_block h 5 _ rfl⟩

set_option maxRecDepth 100000 in
set_option maxHeartbeats 1000000 in
theorem rest_new (g : Nat) (arr : Array Value) (le mo draw : Int) (x y : Value) (w : World) (h : w.heap[g]? = some (.cells arr 139 (0, 0))) (h2 : arr[2]? = some (.int .i64 le)) (h3 : arr[3]? = some (.int .i64 mo)) (h23 : arr[23]? = some (.int .i64 draw))
    (h14 : arr[14]? = some x) (h15 : arr[15]? = some y) (g0 : 0 ≤ le) (g1 : le ≤ mo) (g2 : mo ≤ 1000) :
    Calls Tryz.prog 56 #[.pointer (some ⟨g, 0, none⟩)] w fun e w' => e = .returned (.tuple #[]) ∧ Chg (· = g) w w' := by
  have c2 := cell_block h 2 _ h2
  have c3 := cell_block h 3 _ h3
  have c23 := cell_block h 23 _ h23
  have c14 := cell_block h 14 _ h14
  have c15 := cell_block h 15 _ h15
  have hf := frozen_block h
  have hm : 1 ≤ mo - le + 1 := by omega
  clear h2 h3 h23 h14 h15
  go_enter Tryz.func56, Tryz.ntmps56
  go_wp2
  go_quiet (fail)
  have t1 := tmod_lo draw hm
  have t2 := tmod_hi draw hm
  have t3 := emod_lo (draw.tmod (mo - le + 1)) hm
  have t4 := emod_hi (draw.tmod (mo - le + 1)) hm
  go_wp2
  go_region
  go_end0
  refine ⟨rfl, ?_⟩
  exact Chg.setCell (F := (· = g)) (Chg.setCell (F := (· = g)) (Chg.refl.drewN _) (.inl rfl) _) (.inl rfl) _

set_option maxRecDepth 100000 in
set_option maxHeartbeats 2000000 in
theorem new_no (id : Int) (pA : Option Addr) (pn pc : Nat) (peers : List Int) (le mo be ba draw : Int) (w : World) (hp : Row encI 1 w w.heap.size pA peers) (hpn : pn = peers.length) (hok : PeersOK id peers) (hr : ¬ raftOK le mo be ba) :
    Calls Tryz.prog 36 #[.agg #[.int .i64 id, .slice pA pn pc, .int .i64 le, .int .i64 mo, .int .i64 be, .int .i64 ba], .agg #[.int .i64 0, .int .i64 0, .int .i64 0, .int .i64 0, .int .i64 0, .slice none 0 0], .int .i64 draw] w
      fun e w' => e = .returned (.tuple #[.pointer none, .int .i64 160]) ∧ Below w.heap.size w w' := by
  subst hpn
  have HR := Lib.hid (show decide (raftOK le mo be ba) = false by simpa using hr)
  have HK := Lib.hid hok
  have hb : Below w.heap.size w ((w.alloc (.cells #[.int .i64 id, .slice pA peers.length pc, .int .i64 le, .int .i64 mo, .int .i64 be, .int .i64 ba] 28)).alloc (.cells #[.int .i64 0, .int .i64 0, .int .i64 0, .int .i64 0, .int .i64 0, .slice none 0 0] 99)) := (below_alloc1 w _).alloc (by simp) _
  have HP := Lib.hid ((hp.below hb).more hb.size)
  have HB := Lib.hid hb
  clear hp hr hok hb
  go_enter Tryz.func36, Tryz.ntmps36
  go_wp2_with (fail)
  generalize (w.alloc (.cells #[.int .i64 id, .slice pA peers.length pc, .int .i64 le, .int .i64 mo, .int .i64 be, .int .i64 ba] 28)).alloc (.cells #[.int .i64 0, .int .i64 0, .int .i64 0, .int .i64 0, .int .i64 0, .slice none 0 0] 99) = W at HP HB ⊢
  refine (configured_any id pA _ pc peers le mo be ba W HP.out rfl HK.out).mono ?_
  rintro e w1 ⟨rfl, hb1⟩
  have HB1 := Lib.hid (HB.out.trans (hb1.mono HB.out.size))
  clear hb1 HB HP
  rw [HR.out]
  go_wp2_with (fail)
  go_ret2
  exact ⟨rfl, HB1.out⟩

set_option maxRecDepth 100000 in
set_option maxHeartbeats 4000000 in
theorem new_yes (id : Int) (pA : Option Addr) (pn pc : Nat) (peers : List Int) (le mo be ba draw : Int) (w : World) (hp : Row encI 1 w w.heap.size pA peers) (hpn : pn = peers.length) (hok : PeersOK id peers) (hr : raftOK le mo be ba) :
    Calls Tryz.prog 36 #[.agg #[.int .i64 id, .slice pA pn pc, .int .i64 le, .int .i64 mo, .int .i64 be, .int .i64 ba], .agg #[.int .i64 0, .int .i64 0, .int .i64 0, .int .i64 0, .int .i64 0, .slice none 0 0], .int .i64 draw] w
      fun e w' => ∃ g, e = .returned (.tuple #[.pointer (some ⟨g, 0, none⟩), .int .i64 0]) ∧ Below w.heap.size w w' := by
  subst hpn
  have HR := Lib.hid (show decide (raftOK le mo be ba) = true by simpa using hr)
  have HRR := Lib.hid hr
  have HK := Lib.hid hok
  have hb : Below w.heap.size w ((w.alloc (.cells #[.int .i64 id, .slice pA peers.length pc, .int .i64 le, .int .i64 mo, .int .i64 be, .int .i64 ba] 28)).alloc (.cells #[.int .i64 0, .int .i64 0, .int .i64 0, .int .i64 0, .int .i64 0, .slice none 0 0] 99)) := (below_alloc1 w _).alloc (by simp) _
  have HP := Lib.hid ((hp.below hb).more hb.size)
  have B1 : ((w.alloc (.cells #[.int .i64 id, .slice pA peers.length pc, .int .i64 le, .int .i64 mo, .int .i64 be, .int .i64 ba] 28)).alloc (.cells #[.int .i64 0, .int .i64 0, .int .i64 0, .int .i64 0, .int .i64 0, .slice none 0 0] 99)).heap[w.heap.size]? = some (.cells #[.int .i64 id, .slice pA peers.length pc, .int .i64 le, .int .i64 mo, .int .i64 be, .int .i64 ba] 28 (0, 0)) := block_alloc (World.alloc_at w _) _
  have B2 : ((w.alloc (.cells #[.int .i64 id, .slice pA peers.length pc, .int .i64 le, .int .i64 mo, .int .i64 be, .int .i64 ba] 28)).alloc (.cells #[.int .i64 0, .int .i64 0, .int .i64 0, .int .i64 0, .int .i64 0, .slice none 0 0] 99)).heap[w.heap.size + 1]? = some (.cells #[.int .i64 0, .int .i64 0, .int .i64 0, .int .i64 0, .int .i64 0, .slice none 0 0] 99 (0, 0)) := by have := World.alloc_at (w.alloc (.cells #[.int .i64 id, .slice pA peers.length pc, .int .i64 le, .int .i64 mo, .int .i64 be, .int .i64 ba] 28)) (.cells #[.int .i64 0, .int .i64 0, .int .i64 0, .int .i64 0, .int .i64 0, .slice none 0 0] 99); rwa [World.alloc_size] at this
  have HB1 := Lib.hid B1
  have HB2 := Lib.hid B2
  have HB := Lib.hid hb
  clear hp hr hok hb B1 B2
  go_enter Tryz.func36, Tryz.ntmps36
  go_wp2_with (fail)
  generalize (w.alloc (.cells #[.int .i64 id, .slice pA peers.length pc, .int .i64 le, .int .i64 mo, .int .i64 be, .int .i64 ba] 28)).alloc (.cells #[.int .i64 0, .int .i64 0, .int .i64 0, .int .i64 0, .int .i64 0, .slice none 0 0] 99) = W at HP HB HB1 HB2 ⊢
  refine (configured_any id pA _ pc peers le mo be ba W HP.out rfl HK.out).mono ?_
  rintro e w1 ⟨rfl, hb1⟩
  have D1 := Lib.hid ((hb1.block _ (block_lt HB1.out)).trans HB1.out)
  have D2 := Lib.hid ((hb1.block _ (block_lt HB2.out)).trans HB2.out)
  have DP := Lib.hid ((HP.out.below hb1).more hb1.size)
  have DB := Lib.hid (HB.out.trans (hb1.mono HB.out.size))
  clear hb1 HB HP HB1 HB2
  rw [HR.out]
  obtain ⟨a0, a1, a2, a3, a4, a5⟩ := cells6 D1.out
  obtain ⟨e0, e1, e2, e3, e4, e5⟩ := cells6 D2.out
  go_wp2_with (fail)
  refine (stated_none id pA _ pc le mo be ba w1).mono ?_
  rintro e w2 ⟨rfl, hb2⟩
  have C1 := Lib.hid ((hb2.block _ (block_lt D1.out)).trans D1.out)
  have C2 := Lib.hid ((hb2.block _ (block_lt D2.out)).trans D2.out)
  have CP := Lib.hid ((DP.out.below hb2).more hb2.size)
  have CB := Lib.hid (DB.out.trans (hb2.mono DB.out.size))
  clear hb2 D1 D2 DP DB a0 a1 a2 a3 a4 a5 e0 e1 e2 e3 e4 e5
  obtain ⟨a0, a1, a2, a3, a4, a5⟩ := cells6 C1.out
  obtain ⟨e0, e1, e2, e3, e4, e5⟩ := cells6 C2.out
  go_wp2_with (fail)
  refine (iclone_any pA _ pc peers _ CP.out rfl (by have := HK.out.len; omega)).mono ?_
  rintro e w3 ⟨v3, rfl, hown3, hb3⟩
  obtain ⟨A3, k3, rfl⟩ := hown3.form
  have F1 := Lib.hid ((hb3.block _ (block_lt C1.out)).trans C1.out)
  have F2 := Lib.hid ((hb3.block _ (block_lt C2.out)).trans C2.out)
  have FB := Lib.hid (CB.out.trans (hb3.mono CB.out.size))
  clear hb3 C1 C2 CP CB a0 a1 a2 a3 a4 a5 e0 e1 e2 e3 e4 e5 hown3
  obtain ⟨a0, a1, a2, a3, a4, a5⟩ := cells6 F1.out
  obtain ⟨e0, e1, e2, e3, e4, e5⟩ := cells6 F2.out
  have hf1 := frozen_block F1.out
  go_wp2_with (fail)
  have G1 := Lib.hid (block_setCell (o := 1) F1.out (.slice A3 peers.length k3))
  have G2 := Lib.hid (block_other F2.out ⟨w.heap.size, 1, none⟩ (.slice A3 peers.length k3) (by simp))
  have GB := Lib.hid (FB.out.setCell (p := ⟨w.heap.size, 1, none⟩) (Nat.le_refl _) (.slice A3 peers.length k3))
  clear F1 F2 FB a0 a1 a2 a3 a4 a5 e0 e1 e2 e3 e4 e5 hf1
  generalize w3.setCell ⟨w.heap.size, 1, none⟩ (.slice A3 peers.length k3) = w4 at G1 G2 GB ⊢
  obtain ⟨a0, a1, a2, a3, a4, a5⟩ := cells6 (show w4.heap[w.heap.size]? = some (.cells #[.int .i64 id, .slice A3 peers.length k3, .int .i64 le, .int .i64 mo, .int .i64 be, .int .i64 ba] 28 (0, 0)) from G1.out)
  obtain ⟨e0, e1, e2, e3, e4, e5⟩ := cells6 G2.out
  have m1 : w.heap.size < w4.heap.size := block_lt G1.out
  have m2 : w.heap.size + 1 < w4.heap.size := block_lt G2.out
  go_region_held3 (fun w' => (w'.cell? ⟨w.heap.size, 0, none⟩ = some (.int .i64 id) ∧ w'.cell? ⟨w.heap.size, 1, none⟩ = some (.slice A3 peers.length k3) ∧ w'.cell? ⟨w.heap.size, 2, none⟩ = some (.int .i64 le) ∧ w'.cell? ⟨w.heap.size, 3, none⟩ = some (.int .i64 mo) ∧ w'.cell? ⟨w.heap.size, 4, none⟩ = some (.int .i64 be) ∧ w'.cell? ⟨w.heap.size, 5, none⟩ = some (.int .i64 ba)) ∧
      (w'.cell? ⟨w.heap.size + 1, 0, none⟩ = some (.int .i64 0) ∧ w'.cell? ⟨w.heap.size + 1, 1, none⟩ = some (.int .i64 0) ∧ w'.cell? ⟨w.heap.size + 1, 2, none⟩ = some (.int .i64 0) ∧ w'.cell? ⟨w.heap.size + 1, 3, none⟩ = some (.int .i64 0) ∧ w'.cell? ⟨w.heap.size + 1, 4, none⟩ = some (.int .i64 0) ∧ w'.cell? ⟨w.heap.size + 1, 5, none⟩ = some (.slice none 0 0)))
    (go_keep)
    ((go_at_call 55; refine (copied_none _).mono ?_; rintro e w5 ⟨rfl, rfl⟩))
  have g1 := HRR.out.1.1
  have g2 := HRR.out.1.2.1
  have g3 : 0 ≤ le := by omega
  have g4 := HRR.out.1.2.2.1
  have g5 := HRR.out.1.2.2.2
  have hz4 := GB.out.size
  clear a0 a1 a2 a3 a4 a5 e0 e1 e2 e3 e4 e5 m1 m2 G1 G2
  go_wp2_with (fail)
  refine Calls.mono (rest_new _ _ le mo draw (.int .i64 0) (.int .i64 0) _ (World.alloc_at _ _) ?_ ?_ ?_ ?_ ?_ g3 g4 g5) ?_
  · rfl
  · rfl
  · rfl
  · rfl
  · rfl
  rintro e w7 ⟨rfl, hc7⟩
  go_wp2_with (fail)
  go_ret2
  refine ⟨_, rfl, GB.out.trans ?_⟩
  have hs : w4.heap.size + 1 ≤ w7.heap.size := Nat.le_trans (Nat.le_of_eq (World.alloc_size _ _).symm) hc7.size
  refine ⟨hc7.os, hc7.tape, hc7.output, by omega, fun i hi => ?_⟩
  have hi4 : i < w4.heap.size := by omega
  have h1 := hc7.keep (i := i) (Nat.lt_of_lt_of_le (Nat.lt_succ_of_lt hi4) (Nat.le_of_eq (World.alloc_size _ _).symm)) (Nat.ne_of_lt hi4)
  rw [h1]
  exact Below.heap_alloc _ _ _ hi4
end Go.Proofs.YtjoaldaldcpfeaaGreatDoor
