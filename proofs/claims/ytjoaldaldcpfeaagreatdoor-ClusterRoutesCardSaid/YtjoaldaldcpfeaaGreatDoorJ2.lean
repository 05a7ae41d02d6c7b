/-
  journal.Open on a fresh disk.
-/
import Derived.Test.YtjoaldaldcpfeaaGreatDoorJ1
namespace Go.Proofs.YtjoaldaldcpfeaaGreatDoor
open Go.RowKit

set_option maxRecDepth 100000 in
set_option maxHeartbeats 2000000 in
theorem jopen_no (b m : Nat) (cap : Int) (p : ByteArray) (seg : Int) (w : World) (h : DiskAt w b cap m) (hp : PreOK p) (hs : ¬ (256 ≤ seg ∧ seg ≤ 1048576)) : Calls Tryz.prog 40 #[.pointer (some ⟨b, 0, none⟩), .string p, .int .i64 seg] w
    fun e w' => e = .returned (.tuple #[.pointer none, .int .i64 175]) ∧ Below w.heap.size w w' := by
  have h32 : ¬ (32 < (p.size : Int)) := by have := hp.most; omega
  have HP := Lib.hid hp
  have HD := Lib.hid h
  have HS := Lib.hid hs
  have HB := Lib.hid (below_alloc1 w (.cells #[.pointer (some ⟨b, 0, none⟩), .string p, .int .i64 seg, .bool false, .int .i64 0, .int .i64 0, .int .i64 0, .int .i64 0, .slice none 0 0, .int .i64 0, .int .i64 0, .bool false, .bool false, .int .i64 0] 173))
  clear h hp hs
  go_enter Tryz.func40, Tryz.ntmps40
  go_wp2_with (fail)
  refine (disk_up b m cap w HD.out).mono ?_
  rintro e w1 ⟨rfl, hw1⟩
  obtain rfl : w = w1 := hw1.symm
  go_wp2_with (fail)
  generalize w.alloc (.cells #[.pointer (some ⟨b, 0, none⟩), .string p, .int .i64 seg, .bool false, .int .i64 0, .int .i64 0, .int .i64 0, .int .i64 0, .slice none 0 0, .int .i64 0, .int .i64 0, .bool false, .bool false, .int .i64 0] 173) = W at HB ⊢
  refine (nameable_yes p W (by have := HP.out.most; omega) HP.out.chars).mono ?_
  rintro e w1 ⟨rfl, hw1⟩
  obtain rfl : W = w1 := hw1.symm
  go_wp2_with (fail)
  refine (jout_any _ _ _ _).mono ?_
  rintro e w1 ⟨rfl, hw1⟩
  obtain rfl : W = w1 := hw1.symm
  rw [outB_t HS.out]
  go_wp2_with (fail)
  go_ret2
  exact ⟨rfl, HB.out⟩

set_option maxRecDepth 100000 in
set_option maxHeartbeats 4000000 in
theorem jopen_yes (b m : Nat) (cap : Int) (p : ByteArray) (seg : Int) (w : World) (h : DiskAt w b cap m) (hp : PreOK p) (hs : 256 ≤ seg ∧ seg ≤ 1048576) : Calls Tryz.prog 40 #[.pointer (some ⟨b, 0, none⟩), .string p, .int .i64 seg] w
    fun e w' => ∃ j, e = .returned (.tuple #[.pointer (some ⟨j, 0, none⟩), .int .i64 0]) ∧ JAt w' j b p seg ∧ Below w.heap.size w w' := by
  have h32 : ¬ (32 < (p.size : Int)) := by have := hp.most; omega
  have HN := Lib.hid (hp.name (c := { data := #[74, 46, 84, 77, 80] }) (by decide) (by decide) (by decide))
  have HP := Lib.hid hp
  have HD := Lib.hid h
  have HS := Lib.hid hs
  have HB := Lib.hid (below_alloc1 w (.cells #[.pointer (some ⟨b, 0, none⟩), .string p, .int .i64 seg, .bool false, .int .i64 0, .int .i64 0, .int .i64 0, .int .i64 0, .slice none 0 0, .int .i64 0, .int .i64 0, .bool false, .bool false, .int .i64 0] 173))
  have HX := Lib.hid (World.alloc_at w (.cells #[.pointer (some ⟨b, 0, none⟩), .string p, .int .i64 seg, .bool false, .int .i64 0, .int .i64 0, .int .i64 0, .int .i64 0, .slice none 0 0, .int .i64 0, .int .i64 0, .bool false, .bool false, .int .i64 0] 173))
  have H := Lib.hid (h.below HB.out)
  clear h hp hs
  go_enter Tryz.func40, Tryz.ntmps40
  go_wp2_with (fail)
  refine (disk_up b m cap w HD.out).mono ?_
  rintro e w1 ⟨rfl, hw1⟩
  obtain rfl : w = w1 := hw1.symm
  clear HD
  go_wp2_with (fail)
  obtain ⟨x, hx⟩ : ∃ x, x = w.heap.size := ⟨_, rfl⟩
  rw [← hx] at HX
  rw [← hx]
  clear hx
  generalize w.alloc (.cells #[.pointer (some ⟨b, 0, none⟩), .string p, .int .i64 seg, .bool false, .int .i64 0, .int .i64 0, .int .i64 0, .int .i64 0, .slice none 0 0, .int .i64 0, .int .i64 0, .bool false, .bool false, .int .i64 0] 173) = W at HB HX H ⊢
  refine (nameable_yes p W (by have := HP.out.most; omega) HP.out.chars).mono ?_
  rintro e w1 ⟨rfl, hw1⟩
  obtain rfl : W = w1 := hw1.symm
  go_wp2_with (fail)
  refine (jout_any _ _ _ _).mono ?_
  rintro e w1 ⟨rfl, hw1⟩
  obtain rfl : W = w1 := hw1.symm
  rw [outB_f HS.out]
  go_wp2_with (fail)
  refine (segments_none b m x cap p seg W H.out HX.out HP.out).mono ?_
  rintro e w1 ⟨rfl, hb1⟩
  have HX1 := Lib.hid ((hb1.block _ (block_lt HX.out)).trans HX.out)
  have H1 := Lib.hid (H.out.below hb1)
  have HB1 := Lib.hid (HB.out.trans (hb1.mono HB.out.size))
  clear H HX HB hb1
  go_wp2_with (fail)
  refine (read_none _).mono ?_
  rintro e w2 ⟨rfl, hb2⟩
  have HX := Lib.hid ((hb2.block _ (block_lt HX1.out)).trans HX1.out)
  have H := Lib.hid (H1.out.below hb2)
  have HB := Lib.hid (HB1.out.trans (hb2.mono HB1.out.size))
  clear H1 HX1 HB1 hb2
  have HT := Lib.hid (World.alloc_at w2 (.cells #[.int .i64 0, .int .i64 0, .int .i64 0, .int .i64 0, .slice none 0 0, .int .i64 0, .int .i64 0, .bool false, .bool false, .int .i64 0] 171))
  have HX2 := Lib.hid (block_alloc HX.out (.cells #[.int .i64 0, .int .i64 0, .int .i64 0, .int .i64 0, .slice none 0 0, .int .i64 0, .int .i64 0, .bool false, .bool false, .int .i64 0] 171))
  have HB2 := Lib.hid (HB.out.alloc HB.out.size (.cells #[.int .i64 0, .int .i64 0, .int .i64 0, .int .i64 0, .slice none 0 0, .int .i64 0, .int .i64 0, .bool false, .bool false, .int .i64 0] 171))
  have H2 := Lib.hid (H.out.below (below_alloc1 _ (.cells #[.int .i64 0, .int .i64 0, .int .i64 0, .int .i64 0, .slice none 0 0, .int .i64 0, .int .i64 0, .bool false, .bool false, .int .i64 0] 171)))
  have hl := block_lt HX.out
  have hl2 := block_lt HX2.out
  have hf := frozen_block HX.out
  have d0 : w2.cell? ⟨x, 0, none⟩ = some (.pointer (some ⟨b, 0, none⟩)) := cell_block HX.out 0 _ rfl
  have d1 : w2.cell? ⟨x, 1, none⟩ = some (.string p) := cell_block HX.out 1 _ rfl
  have d4 : w2.cell? ⟨x, 4, none⟩ = some (.int .i64 0) := cell_block HX.out 4 _ rfl
  have d5 : w2.cell? ⟨x, 5, none⟩ = some (.int .i64 0) := cell_block HX.out 5 _ rfl
  have d6 : w2.cell? ⟨x, 6, none⟩ = some (.int .i64 0) := cell_block HX.out 6 _ rfl
  have d7 : w2.cell? ⟨x, 7, none⟩ = some (.int .i64 0) := cell_block HX.out 7 _ rfl
  have d8 : w2.cell? ⟨x, 8, none⟩ = some (.slice none 0 0) := cell_block HX.out 8 _ rfl
  have d9 : w2.cell? ⟨x, 9, none⟩ = some (.int .i64 0) := cell_block HX.out 9 _ rfl
  have d10 : w2.cell? ⟨x, 10, none⟩ = some (.int .i64 0) := cell_block HX.out 10 _ rfl
  have d11 : w2.cell? ⟨x, 11, none⟩ = some (.bool false) := cell_block HX.out 11 _ rfl
  have d12 : w2.cell? ⟨x, 12, none⟩ = some (.bool false) := cell_block HX.out 12 _ rfl
  have d13 : w2.cell? ⟨x, 13, none⟩ = some (.int .i64 0) := cell_block HX.out 13 _ rfl
  go_wp2_with (fail)
  rw [setCell_id d4, setCell_id d5, setCell_id d6, setCell_id d7, setCell_id d8, setCell_id d9, setCell_id d10, setCell_id d11, setCell_id d12, setCell_id d13]
  clear d0 d1 d4 d5 d6 d7 d8 d9 d10 d11 d12 d13 hf hl HX H HB
  generalize w2.alloc (.cells #[.int .i64 0, .int .i64 0, .int .i64 0, .int .i64 0, .slice none 0 0, .int .i64 0, .int .i64 0, .bool false, .bool false, .int .i64 0] 171) = W3 at HT HX2 HB2 H2 hl2 ⊢
  refine (part_any b x p seg W3 HX2.out HP.out).mono ?_
  rintro e w3 ⟨rfl, hw3⟩
  obtain rfl : W3 = w3 := hw3.symm
  go_wp2_with (fail)
  refine (delete_none b m cap _ W3 H2.out HN.out).mono ?_
  rintro e w3 ⟨rfl, hb3⟩
  have HX := Lib.hid ((hb3.block _ hl2).trans HX2.out)
  have HB := Lib.hid (HB2.out.trans (hb3.mono HB2.out.size))
  clear HX2 HB2 H2 hb3 HT hl2
  go_wp2_with (fail)
  go_loopw [75] (fun i wr => i = .int .i64 0 ∧ wr = w3) (fun _ _ => 0)
  case atStart => exact ⟨rfl, rfl⟩
  case round =>
    obtain ⟨rfl, rfl⟩ := hrel
    go_wp2_with (fail)
    go_ret2
    exact ⟨_, rfl, HX.out, HB.out⟩
end Go.Proofs.YtjoaldaldcpfeaaGreatDoor
