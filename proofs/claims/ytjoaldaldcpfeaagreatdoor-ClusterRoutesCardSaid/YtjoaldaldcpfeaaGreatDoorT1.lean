/-
  tree: small ones; machine.Open over a tree of nothing.
-/
import Derived.Test.YtjoaldaldcpfeaaGreatDoorM1
import Derived.Test.YtjoaldaldcpfeaaGreatDoorD1
namespace Go.Proofs.YtjoaldaldcpfeaaGreatDoor
open Go.RowKit

/-- A tree of nothing, as far as it is asked. -/
structure TAt (w : World) (t : Nat) : Prop where
  c8 : w.cell? ⟨t, 8, none⟩ = some (.int .i64 0)
  c12 : w.cell? ⟨t, 12, none⟩ = some (.slice none 0 0)
  c16 : w.cell? ⟨t, 16, none⟩ = some (.int .i64 0)
  lt : t < w.heap.size
theorem TAt.keep {w w' : World} {t B : Nat} (h : TAt w t) (hb : Below B w w') (ht : t < B) : TAt w' t :=
  ⟨(hb.cell (p := ⟨t, 8, none⟩) ht).trans h.c8, (hb.cell (p := ⟨t, 12, none⟩) ht).trans h.c12, (hb.cell (p := ⟨t, 16, none⟩) ht).trans h.c16, Nat.lt_of_lt_of_le h.lt hb.size⟩
theorem TAt.below {w w' : World} {t : Nat} (h : TAt w t) (hb : Below w.heap.size w w') : TAt w' t := h.keep hb h.lt

theorem applied_none (t : Nat) (w : World) (h : TAt w t) : Calls Tryz.prog 65 #[.pointer (some ⟨t, 0, none⟩)] w fun e w' => e = .returned (.int .i64 0) ∧ w' = w := by
  obtain ⟨c8, c12, c16, hl⟩ := h
  go_enter Tryz.func65, Tryz.ntmps65
  go_wp2
  go_ret
  exact ⟨rfl, rfl⟩
theorem flushed_none (t : Nat) (w : World) (h : TAt w t) : Calls Tryz.prog 66 #[.pointer (some ⟨t, 0, none⟩)] w fun e w' => e = .returned (.int .i64 0) ∧ w' = w := by
  obtain ⟨c8, c12, c16, hl⟩ := h
  go_enter Tryz.func66, Tryz.ntmps66
  go_wp2
  go_ret
  exact ⟨rfl, rfl⟩

theorem clip_none (w : World) : Calls Tryz.prog 156 #[.slice none 0 0] w fun e w' => e = .returned (.slice none 0 0) ∧ w' = w := by
  go_enter Tryz.func156, Tryz.ntmps156
  go_wp2
  go_ret
  exact ⟨rfl, rfl⟩
theorem app_none_b (w : World) : (Builtin.append_ #[48, 48] 48 #[.slice none 0 0, .slice none 0 0]).run Tryz.prog w = .ok (.slice none 0 0) w := by
  obtain ⟨i, z, hi, _⟩ := info5
  exact append_none (base := 0) (ht := Tryz.underlying48) (hi := hi) (hown := World.ownsRow_nil w 0 5 1) (c := 0) ..
theorem tcopied_none (w : World) : Calls Tryz.prog 100 #[.slice none 0 0] w fun e w' => e = .returned (.slice none 0 0) ∧ w' = w := by
  have happ := app_none_b
  go_enter Tryz.func100, Tryz.ntmps100
  go_wp2_with (fail)
  refine (clip_none _).mono ?_
  rintro e w1 ⟨rfl, hw1⟩
  obtain rfl := hw1.symm
  go_wp2_with (fail)
  go_ret
  exact ⟨rfl, rfl⟩
theorem state_none (t : Nat) (w : World) (h : TAt w t) : Calls Tryz.prog 67 #[.pointer (some ⟨t, 0, none⟩)] w fun e w' => e = .returned (.slice none 0 0) ∧ w' = w := by
  obtain ⟨c8, c12, c16, hl⟩ := h
  go_enter Tryz.func67, Tryz.ntmps67
  go_wp2_with (fail)
  refine (tcopied_none _).mono ?_
  rintro e w1 ⟨rfl, hw1⟩
  obtain rfl := hw1.symm
  go_wp2_with (fail)
  go_ret
  exact ⟨rfl, rfl⟩

set_option maxRecDepth 100000 in
theorem mopen_none (t : Nat) (w : World) (h : TAt w t) : Calls Tryz.prog 39 #[.pointer (some ⟨t, 0, none⟩)] w fun e w' => ∃ m, e = .returned (.tuple #[.pointer (some ⟨m, 0, none⟩), .int .i64 0]) ∧ Below w.heap.size w w' := by
  have H := Lib.hid h
  clear h
  go_enter Tryz.func39, Tryz.ntmps39
  go_wp2_with (fail)
  refine (applied_none t w H.out).mono ?_
  rintro e w1 ⟨rfl, hw1⟩
  obtain rfl : w = w1 := hw1.symm
  go_wp2_with (fail)
  refine (flushed_none t w H.out).mono ?_
  rintro e w1 ⟨rfl, hw1⟩
  obtain rfl : w = w1 := hw1.symm
  go_wp2_with (fail)
  rw [run_makeMap]
  go_wp2_with (fail)
  have hb : Below w.heap.size w ((w.alloc (.map #[] 0)).alloc (.cells #[.pointer (some ⟨t, 0, none⟩), .map (some w.heap.size)] 166)) := (below_alloc1 w _).alloc (by simp) _
  have H1 := Lib.hid (H.out.below hb)
  have HB := Lib.hid hb
  clear hb H
  generalize (w.alloc (.map #[] 0)).alloc (.cells #[.pointer (some ⟨t, 0, none⟩), .map (some w.heap.size)] 166) = W at H1 HB ⊢
  refine (state_none t W H1.out).mono ?_
  rintro e w1 ⟨rfl, hw1⟩
  obtain rfl : W = w1 := hw1.symm
  go_wp2_with (fail)
  go_ret2
  exact ⟨_, rfl, HB.out⟩

set_option maxRecDepth 100000 in
theorem mem_new (w : World) : Calls Tryz.prog 59 #[] w fun e w' => ∃ m, e = .returned (.pointer (some ⟨m, 0, none⟩)) ∧ Below w.heap.size w w' := by
  go_enter Tryz.func59, Tryz.ntmps59
  go_wp2_with (fail)
  go_ret
  exact ⟨_, rfl, below_alloc1 w _⟩
end Go.Proofs.YtjoaldaldcpfeaaGreatDoor
