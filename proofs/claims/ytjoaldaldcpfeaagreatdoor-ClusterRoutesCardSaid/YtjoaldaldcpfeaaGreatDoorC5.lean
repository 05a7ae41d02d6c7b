/-
  A fresh disk: New, Down, look, Size, List, Delete; the sorts of nothing.
-/
import Derived.Test.YtjoaldaldcpfeaaGreatDoorS1
namespace Go.Proofs.YtjoaldaldcpfeaaGreatDoor
open Go.RowKit

theorem KS : KeyEnc Tryz.prog 9 Value.string (fun s : ByteArray => s.size ≤ 1000) where
  keyed := Maps.string_keyed Tryz.underlying9
  reads x hx := ⟨_, WideMaps.keyOf_string_mk Tryz.underlying9 (by unfold maxLen; omega)⟩
  inj x y h := by injection h

/-- A disk on which there is nothing. -/
structure DiskAt (w : World) (b : Nat) (cap : Int) (m : Nat) : Prop where
  blk : w.heap[b]? = some (.cells #[.int .i64 cap, .int .i64 0, .map (some m), .bool false, .int .i64 0, .int .i64 0, .int .i64 0, .int .i64 0, .int .i64 0, .int .i64 0, .int .i64 0] 89 (0, 0))
  files : w.heap[m]? = some (.map #[] 0)
theorem DiskAt.keep {w w' : World} {b m B : Nat} {cap : Int} (h : DiskAt w b cap m) (hb : Below B w w') (h1 : b < B) (h2 : m < B) : DiskAt w' b cap m := ⟨(hb.block b h1).trans h.blk, (hb.block m h2).trans h.files⟩
theorem DiskAt.below {w w' : World} {b m : Nat} {cap : Int} (h : DiskAt w b cap m) (hb : Below w.heap.size w w') : DiskAt w' b cap m := h.keep hb (block_lt h.blk) (block_lt h.files)
theorem DiskAt.mapG {w : World} {b m : Nat} {cap : Int} (h : DiskAt w b cap m) : MapG Tryz.prog 9 Value.string (fun _ : Unit => Value.pointer none) w m ([] : List (ByteArray × Unit)) := ⟨_, _, h.files, MapKept.stamped_empty 0, by simp, rfl⟩
theorem DiskAt.cells {w : World} {b m : Nat} {cap : Int} (h : DiskAt w b cap m) : w.cell? ⟨b, 2, none⟩ = some (.map (some m)) ∧ w.cell? ⟨b, 3, none⟩ = some (.bool false) ∧ b < w.heap.size := ⟨cell_block h.blk 2 _ rfl, cell_block h.blk 3 _ rfl, block_lt h.blk⟩

set_option maxRecDepth 100000 in
set_option maxHeartbeats 1000000 in
theorem disk_new (cap : Int) (w : World) (h : 0 ≤ cap ∧ cap ≤ 67108864) : Calls Tryz.prog 17 #[.int .i64 cap] w fun e w' => ∃ b m, e = .returned (.tuple #[.pointer (some ⟨b, 0, none⟩), .int .i64 0]) ∧ DiskAt w' b cap m ∧ w.heap.size ≤ b ∧ w.heap.size ≤ m ∧ Below w.heap.size w w' := by
  have h1 : ¬ (cap < 0) := by omega
  have h2 : ¬ (67108864 < cap) := by omega
  go_enter Tryz.func17, Tryz.ntmps17
  go_wp2_with (fail)
  rw [run_makeMap]
  go_wp2
  go_ret2
  have hz := World.alloc_size w (.map #[] 0)
  refine ⟨_, w.heap.size, rfl, ⟨?_, block_alloc (World.alloc_at w _) _⟩, ?_, Nat.le_refl _, (below_alloc1 w _).alloc (by omega) _⟩
  · have := World.alloc_at (w.alloc (.map #[] 0)) (.cells #[.int .i64 cap, .int .i64 0, .map (some w.heap.size), .bool false, .int .i64 0, .int .i64 0, .int .i64 0, .int .i64 0, .int .i64 0, .int .i64 0, .int .i64 0] 89)
    simpa using this
  · simp

theorem disk_up (b m : Nat) (cap : Int) (w : World) (h : DiskAt w b cap m) : Calls Tryz.prog 34 #[.pointer (some ⟨b, 0, none⟩)] w fun e w' => e = .returned (.bool false) ∧ w' = w := by
  obtain ⟨c2, c3, hl⟩ := h.cells
  go_enter Tryz.func34, Tryz.ntmps34
  go_wp2
  go_ret
  exact ⟨rfl, rfl⟩

set_option maxRecDepth 100000 in
set_option maxHeartbeats 1000000 in
/-- No file is there. -/
theorem look_none (b m : Nat) (cap : Int) (s : ByteArray) (w : World) (h : DiskAt w b cap m) (hs : PathOK s 64) : Calls Tryz.prog 115 #[.pointer (some ⟨b, 0, none⟩), .string s, .bool true] w fun e w' => e = .returned (.int .i64 42) ∧ w' = w := by
  obtain ⟨c2, c3, hl⟩ := h.cells
  have hlook : (Instr.lookup 85 (.map (some m)) (.string s) false).run Tryz.prog w = .ok (.pointer none) w := by simpa [kget] using MapG.look KS h.mapG Tryz.underlying85 s (by have := hs.most; omega) (.pointer none) (fun w => by kernel_rfl)
  have HN := Lib.hid (named_yes s w hs)
  clear h hs
  go_enter Tryz.func115, Tryz.ntmps115
  go_wp2_with (fail)
  refine HN.out.mono ?_
  rintro e w1 ⟨rfl, hw1⟩
  obtain rfl := hw1.symm
  go_wp2
  go_ret
  exact ⟨rfl, rfl⟩

set_option maxRecDepth 100000 in
theorem size_none (b m : Nat) (cap : Int) (s : ByteArray) (w : World) (h : DiskAt w b cap m) (hs : PathOK s 64) : Calls Tryz.prog 76 #[.pointer (some ⟨b, 0, none⟩), .string s] w fun e w' => e = .returned (.tuple #[.int .i64 0, .int .i64 42]) ∧ w' = w := by
  have HN := Lib.hid (look_none b m cap s w h hs)
  clear h hs
  go_enter Tryz.func76, Tryz.ntmps76
  go_wp2_with (fail)
  refine HN.out.mono ?_
  rintro e w1 ⟨rfl, hw1⟩
  obtain rfl := hw1.symm
  go_wp2
  go_ret2
  exact ⟨rfl, rfl⟩

end Go.Proofs.YtjoaldaldcpfeaaGreatDoor
