/-
  World.draw, World.enough, World.quiet of a world of one node.
-/
import Derived.Test.YtocogcgnahbpkaaGreatW1
namespace Go.Proofs.YtocogcgnahbpkaaGreat
open Go.RowKit

set_option maxRecDepth 100000 in
set_option maxHeartbeats 1000000 in
theorem draw_first (bw b1 : Nat) (g : WG) (S : Nat → Prop) (w : World) (ha : WAt w S bw b1 g) :
    Calls Tryz.prog 35 #[.pointer (some ⟨bw, 0, none⟩), .int .i64 1, .pointer (some ⟨b1, 0, none⟩)] w fun e w' => e = .returned (.int .i64 0) ∧ w' = w := by
  have d0 := sc0 ha.sb
  have hl := block_lt ha.sb
  go_enter Tryz.func35, Tryz.ntmps35
  go_wp2_with (fail)
  go_ret
  exact ⟨rfl, rfl⟩

set_option maxRecDepth 100000 in
set_option maxHeartbeats 1000000 in
theorem enough_any (bw b1 : Nat) (g : WG) (S : Nat → Prop) (w : World) (ha : WAt w S bw b1 g) (hl : g.dl.length ≤ 100000) :
    Calls Tryz.prog 48 #[.pointer (some ⟨bw, 0, none⟩)] w fun e w' => (∃ v : Int, 1 ≤ v ∧ e = .returned (.int .i64 v)) ∧ ∃ n, w' = w.drewN n := by
  have HA := Lib.hid ha
  have c6 := wc6 ha.wb
  have c7 := wc7 ha.wb
  have hlw := block_lt ha.wb
  have hse := ha.seat
  have hls : g.sb < w.heap.size := ha.bd _ ha.seatS
  clear ha
  go_enter Tryz.func48, Tryz.ntmps48
  go_wp2_with (fail)
  go_loopw [3, 4] (fun h i wr => ∃ (nq k : Nat), i = .int .i64 k ∧ k ≤ 1 ∧ (∃ m : Nat, h = .int .i64 m ∧ m ≤ 100000) ∧ wr = w.drewN nq) (fun _ i _ => 1 - (intOf i).toNat)
  case atStart => exact ⟨0, 0, rfl, by omega, ⟨0, rfl, by omega⟩, rfl⟩
  case round =>
    obtain ⟨nq, k, rfl, hk, ⟨m, rfl, hm⟩, rfl⟩ := hrel
    by_cases hk0 : k = 0
    · subst hk0
      have HL := Lib.hid (last_any b1 g (w.drewN nq) HA.out.sb ((HA.out.dl.ents HA.out.bd).drewN nq) HA.out.dn hl)
      go_wp2_with (go_at_call 30; refine HL.out.mono ?_; rintro e w2 ⟨⟨t, rfl⟩, n2, rfl⟩)
      exact ⟨⟨nq + n2, 1, rfl, by omega, ⟨if m < g.dl.length then g.dl.length else m, by split <;> rfl, by split <;> omega⟩, rfl⟩, by simp [intOf]⟩
    · have hk1 : k = 1 := by omega
      subst hk1
      go_wp2_with (fail)
      have w1 : IntKind.i64.wrap ((m : Int) + 10) = (m : Int) + 10 := IntWalk.i64_in _ (by omega)
      have w2 : IntKind.i64.wrap (200 * ((m : Int) + 10)) = 200 * ((m : Int) + 10) := IntWalk.i64_in _ (by omega)
      have w3 : IntKind.i64.wrap (5000 + 200 * ((m : Int) + 10)) = 5000 + 200 * ((m : Int) + 10) := IntWalk.i64_in _ (by omega)
      go_quiet (fail)
      go_wp2
      go_ret
      exact ⟨⟨_, by omega, rfl⟩, by simp only [World.drewN_drewN]; exact ⟨_, rfl⟩⟩

set_option maxRecDepth 100000 in
set_option maxHeartbeats 1000000 in
theorem quiet_any (bw b1 : Nat) (g : WG) (S : Nat → Prop) (w : World) (ha : WAt w S bw b1 g) (hl : g.dl.length ≤ 100000) :
    Calls Tryz.prog 29 #[.pointer (some ⟨bw, 0, none⟩), .pointer (some ⟨b1, 0, none⟩)] w fun e w' => e = .returned (.bool true) ∧ ∃ n, w' = w.drewN n := by
  have HE := Lib.hid (enough_any bw b1 g S w ha hl)
  have c7 := wc7 ha.wb
  have hlw := block_lt ha.wb
  clear ha
  go_enter Tryz.func29, Tryz.ntmps29
  go_wp2_with (go_at_call 48; refine HE.out.mono ?_; rintro e w2 ⟨⟨v, hv, rfl⟩, n2, rfl⟩)
  go_loop [6] (fun i => i = .int .i64 0) (fun _ => 0)
  case atStart => rfl
  case round =>
    subst hrel
    have hv' : (0 : Int) < v := by omega
    go_wp2_with (fail)
    go_ret
    exact ⟨rfl, _, rfl⟩
end Go.Proofs.YtocogcgnahbpkaaGreat
