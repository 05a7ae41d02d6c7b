/-
  replica on a fresh disk: snap, leftover; the journal's tellings; begin.
-/
import Derived.Test.YtjoaldaldcpfeaaGreatDoorJ2
import Derived.Test.YtjoaldaldcpfeaaGreatDoorR2
import Derived.Test.YtjoaldaldcpfeaaGreatDoorT1
namespace Go.Proofs.YtjoaldaldcpfeaaGreatDoor
open Go.RowKit

theorem jat_cells {w : World} {j b : Nat} {p : ByteArray} {seg : Int} (h : JAt w j b p seg) : w.cell? ⟨j, 4, none⟩ = some (.int .i64 0) ∧ w.cell? ⟨j, 5, none⟩ = some (.int .i64 0) ∧ w.cell? ⟨j, 6, none⟩ = some (.int .i64 0) ∧ w.cell? ⟨j, 7, none⟩ = some (.int .i64 0) ∧ w.cell? ⟨j, 8, none⟩ = some (.slice none 0 0) ∧ j < w.heap.size :=
  ⟨cell_block h 4 _ rfl, cell_block h 5 _ rfl, cell_block h 6 _ rfl, cell_block h 7 _ rfl, cell_block h 8 _ rfl, block_lt h⟩
theorem jat_below {w w' : World} {j b : Nat} {p : ByteArray} {seg : Int} (h : JAt w j b p seg) (hb : Below w.heap.size w w') : JAt w' j b p seg := (hb.block _ (block_lt h)).trans h
theorem below_drewN {w : World} (n : Nat) : Below w.heap.size w (w.drewN n) := ⟨rfl, rfl, rfl, Nat.le_refl _, fun _ _ => rfl⟩

theorem quiet0 {P : Program} {f : Nat} {args : Array Value} {w : World} {E : Ending} (h : Calls P f args w fun e w' => e = E ∧ w' = w) : Calls P f args w fun e w' => e = E ∧ ∃ n, w' = w.drewN n := h.mono fun _ _ h => ⟨h.1, 0, h.2⟩
theorem DiskAt.drewN {w : World} {b m : Nat} {cap : Int} (h : DiskAt w b cap m) (n : Nat) : DiskAt (w.drewN n) b cap m := ⟨h.blk, h.files⟩

set_option maxRecDepth 100000 in
theorem base_none (j b : Nat) (p : ByteArray) (seg : Int) (w : World) (h : JAt w j b p seg) : Calls Tryz.prog 79 #[.pointer (some ⟨j, 0, none⟩)] w fun e w' => e = .returned (.tuple #[.int .i64 0, .int .i64 0]) ∧ Below w.heap.size w w' := by
  obtain ⟨c4, c5, c6, c7, c8, hl⟩ := jat_cells h
  clear h
  go_enter Tryz.func79, Tryz.ntmps79
  go_wp2_with (fail)
  go_quiet (fail)
  go_wp2_with (fail)
  go_ret2
  exact ⟨rfl, below_drewN _⟩

set_option maxRecDepth 100000 in
theorem told_last (j b : Nat) (p : ByteArray) (seg : Int) (w : World) (h : JAt w j b p seg) : Calls Tryz.prog 126 #[.pointer (some ⟨j, 4, none⟩)] w fun e w' => e = .returned (.tuple #[.int .i64 0, .int .i64 0]) ∧ Below w.heap.size w w' := by
  obtain ⟨c4, c5, c6, c7, c8, hl⟩ := jat_cells h
  clear h
  go_enter Tryz.func126, Tryz.ntmps126
  go_wp2_with (fail)
  go_quiet (fail)
  go_wp2_with (fail)
  go_ret2
  exact ⟨rfl, below_drewN _⟩

set_option maxRecDepth 100000 in
theorem last_none (j b : Nat) (p : ByteArray) (seg : Int) (w : World) (h : JAt w j b p seg) : Calls Tryz.prog 83 #[.pointer (some ⟨j, 0, none⟩)] w fun e w' => e = .returned (.tuple #[.int .i64 0, .int .i64 0]) ∧ Below w.heap.size w w' := by
  have H := Lib.hid h
  have hl := block_lt h
  clear h
  go_enter Tryz.func83, Tryz.ntmps83
  go_wp2_with (fail)
  refine (told_last j b p seg w H.out).mono ?_
  rintro e w1 ⟨rfl, hb⟩
  go_wp2_with (fail)
  go_ret2
  exact ⟨rfl, hb⟩

set_option maxRecDepth 100000 in
theorem jcopies_none (w : World) : Calls Tryz.prog 127 #[.slice none 0 0] w fun e w' => e = .returned (.slice none 0 0) ∧ w' = w := by
  go_enter Tryz.func127, Tryz.ntmps127
  go_wp2_with (fail)
  go_loopw [3, 8] (fun l j wr => l = .slice none 0 0 ∧ j = .int .i64 0 ∧ wr = w) (fun _ _ _ => 0)
  case atStart => exact ⟨rfl, rfl, rfl⟩
  case round =>
    obtain ⟨rfl, rfl, rfl⟩ := hrel
    go_wp2_with (fail)
    go_ret
    exact ⟨rfl, rfl⟩

set_option maxRecDepth 100000 in
set_option maxHeartbeats 1000000 in
theorem entries_none (j b : Nat) (p : ByteArray) (seg : Int) (w : World) (h : JAt w j b p seg) : Calls Tryz.prog 84 #[.pointer (some ⟨j, 0, none⟩), .int .i64 1, .int .i64 0] w fun e w' => e = .returned (.tuple #[.slice none 0 0, .int .i64 0]) ∧ Below w.heap.size w w' := by
  have H := Lib.hid h
  have hl := block_lt h
  clear h
  go_enter Tryz.func84, Tryz.ntmps84
  go_wp2_with (fail)
  refine (told_last j b p seg w H.out).mono ?_
  rintro e w1 ⟨rfl, hb⟩
  have H1 := Lib.hid (jat_below H.out hb)
  have HB := Lib.hid hb
  clear H hb hl
  obtain ⟨c4, c5, c6, c7, c8, hl⟩ := jat_cells H1.out
  go_wp2_with (fail)
  go_quiet ((go_at_call 127; exact Calls.quiet_of (quiet0 (jcopies_none _))))
  go_wp2_with (fail)
  go_ret2
  exact ⟨rfl, HB.out.trans ((below_drewN _).mono HB.out.size)⟩

set_option maxRecDepth 100000 in
theorem hard_none (j b : Nat) (p : ByteArray) (seg : Int) (w : World) (h : JAt w j b p seg) : Calls Tryz.prog 82 #[.pointer (some ⟨j, 0, none⟩)] w fun e w' => e = .returned (.agg #[.int .i64 0, .int .i64 0]) ∧ Below w.heap.size w w' := by
  obtain ⟨c4, c5, c6, c7, c8, hl⟩ := jat_cells h
  have hx := World.alloc_at w (.cells #[.int .i64 0, .int .i64 0] 97)
  have hb := below_alloc1 w (.cells #[.int .i64 0, .int .i64 0] 97)
  clear h
  go_enter Tryz.func82, Tryz.ntmps82
  go_wp2_with (fail)
  refine bodyPost_ret (results_cell_row rfl _ _ w.heap.size 97 _ (0, 0) _ rfl hx Tryz.underlying97 rfl (by kernel_rfl)) rfl ?_
  exact ⟨rfl, hb⟩

set_option maxRecDepth 100000 in
theorem snap_any (r : Nat) (p : ByteArray) (w : World) (c1 : w.cell? ⟨r, 1, none⟩ = some (.string p)) (hp : PreOK p) : Calls Tryz.prog 77 #[.pointer (some ⟨r, 0, none⟩)] w fun e w' => e = .returned (.string (p ++ { data := #[83, 78, 65, 80] })) ∧ w' = w := by
  have hcat := hp.cat (c := { data := #[83, 78, 65, 80] }) (by decide)
  clear hp
  go_enter Tryz.func77, Tryz.ntmps77
  go_wp2_with (fail)
  go_ret
  exact ⟨rfl, rfl⟩

set_option maxRecDepth 100000 in
theorem left_none (r b m : Nat) (cap : Int) (p : ByteArray) (w : World) (c0 : w.cell? ⟨r, 0, none⟩ = some (.pointer (some ⟨b, 0, none⟩))) (c1 : w.cell? ⟨r, 1, none⟩ = some (.string p)) (hp : PreOK p) (h : DiskAt w b cap m) :
    Calls Tryz.prog 41 #[.pointer (some ⟨r, 0, none⟩)] w fun e w' => e = .returned (.int .i64 0) ∧ Below w.heap.size w w' := by
  have HN := Lib.hid (hp.name (c := { data := #[83, 78, 65, 80] }) (by decide) (by decide) (by decide))
  have HP := Lib.hid hp
  have H := Lib.hid h
  clear h hp
  go_enter Tryz.func41, Tryz.ntmps41
  go_wp2_with (fail)
  go_quiet ((first | (go_at_call 77; exact Calls.quiet_of (quiet0 (snap_any r p _ c1 HP.out))) | (go_at_call 76; exact Calls.quiet_of (quiet0 (size_none b m cap _ _ (H.out.drewN _) HN.out)))))
  go_wp2_with (fail)
  go_ret
  exact ⟨rfl, below_drewN _⟩
end Go.Proofs.YtjoaldaldcpfeaaGreatDoor
