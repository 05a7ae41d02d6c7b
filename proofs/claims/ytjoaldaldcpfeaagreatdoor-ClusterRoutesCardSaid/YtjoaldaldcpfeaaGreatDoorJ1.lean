/-
  journal.Open on a fresh disk.
-/
import Derived.Test.YtjoaldaldcpfeaaGreatDoorM1
namespace Go.Proofs.YtjoaldaldcpfeaaGreatDoor
open Go.RowKit

set_option maxRecDepth 100000 in
set_option maxHeartbeats 4000000 in
theorem nameable_yes (s : ByteArray) (w : World) (hm : s.size ≤ 64) (h : ∀ k, k < s.size → charOK (chr s k)) : Calls Tryz.prog 69 #[.string s] w fun e w' => e = .returned (.bool true) ∧ w' = w := by
  have HC := Lib.hid h
  have h2 : ¬ (64 < (s.size : Int)) := by omega
  clear h hm
  go_enter Tryz.func69, Tryz.ntmps69
  go_wp2_with (fail)
  go_loopw [7] (fun i wr => ∃ k : Nat, i = .int .i64 k ∧ k ≤ s.size ∧ wr = w) (fun i _ => (s.size - intOf i).toNat)
  case atStart => exact ⟨0, rfl, Nat.zero_le _, rfl⟩
  case round =>
    obtain ⟨k, rfl, hk, rfl⟩ := hrel
    by_cases hlt : k < s.size
    · have hi := fun W => run_chr (P := Tryz.prog) 9 s k Tryz.underlying9 hlt W
      have hc := HC.out k hlt
      rcases char_cases hc with ⟨a1, a2⟩ | ⟨a1, a2, a3⟩ | ⟨a1, a2, a3, a4⟩ | ⟨a1, a2⟩
      · clear hc
        have b1 : ¬ chr s k < 97 := by omega
        have b2 : ¬ 122 < chr s k := by omega
        go_wp2_with (fail)
        exact ⟨⟨k + 1, rfl, by omega, by simp⟩, by simp [intOf]; omega⟩
      · clear hc
        have b1 : chr s k < 97 := by omega
        have b3 : ¬ chr s k < 65 := by omega
        have b4 : ¬ 90 < chr s k := by omega
        go_wp2_with (fail)
        exact ⟨⟨k + 1, rfl, by omega, by simp⟩, by simp [intOf]; omega⟩
      · clear hc
        have b1 : chr s k < 97 := by omega
        have b3 : chr s k < 65 := by omega
        have b4 : ¬ chr s k < 48 := by omega
        have b5 : ¬ 57 < chr s k := by omega
        go_wp2_with (fail)
        exact ⟨⟨k + 1, rfl, by omega, by simp⟩, by simp [intOf]; omega⟩
      · have HM := Lib.hid a2
        have b1 : chr s k < 97 := by omega
        have r1 : 0 ≤ chr s k := (chr_range s k).1
        have r2 : chr s k < 128 := by omega
        have HR := Lib.hid (mark_idx a2)
        by_cases c1 : chr s k < 65
        · have c2 : chr s k < 48 := by unfold markC at a2; omega
          clear hc a2
          go_wp2_with (fail)
          refine (contains_rune _ _ _ r1 r2).mono ?_
          rintro e w1 ⟨rfl, hw1⟩
          obtain rfl := hw1.symm
          have hr : decide (0 ≤ Lib.indexByte (ByteArray.mk #[46, 45, 95, 47]).data.toList (chr s k).toNat.toUInt8) = true := by simpa [marks] using HR.out
          rw [hr]
          go_wp2_with (fail)
          exact ⟨⟨k + 1, rfl, by omega, by simp⟩, by simp [intOf]; omega⟩
        · have c2 : 90 < chr s k := by unfold markC at a2; omega
          have c3 : ¬ chr s k < 48 := by omega
          have c4 : 57 < chr s k := by omega
          clear hc a2
          go_wp2_with (fail)
          refine (contains_rune _ _ _ r1 r2).mono ?_
          rintro e w1 ⟨rfl, hw1⟩
          obtain rfl := hw1.symm
          have hr : decide (0 ≤ Lib.indexByte (ByteArray.mk #[46, 45, 95, 47]).data.toList (chr s k).toNat.toUInt8) = true := by simpa [marks] using HR.out
          rw [hr]
          go_wp2_with (fail)
          exact ⟨⟨k + 1, rfl, by omega, by simp⟩, by simp [intOf]; omega⟩
    · go_wp2_with (fail)
      go_ret
      exact ⟨rfl, by simp⟩

/-- A journal of nothing. -/
def jcells (b : Nat) (p : ByteArray) (seg : Int) : Array Value := #[.pointer (some ⟨b, 0, none⟩), .string p, .int .i64 seg, .bool false, .int .i64 0, .int .i64 0, .int .i64 0, .int .i64 0, .slice none 0 0, .int .i64 0, .int .i64 0, .bool false, .bool false, .int .i64 0]
abbrev JAt (w : World) (j b : Nat) (p : ByteArray) (seg : Int) : Prop := w.heap[j]? = some (.cells (jcells b p seg) 173 (0, 0))

set_option maxRecDepth 100000 in
theorem part_any (b j : Nat) (p : ByteArray) (seg : Int) (w : World) (h : JAt w j b p seg) (hp : PreOK p) : Calls Tryz.prog 74 #[.pointer (some ⟨j, 0, none⟩)] w fun e w' => e = .returned (.string (p ++ { data := #[74, 46, 84, 77, 80] })) ∧ w' = w := by
  have hcat := hp.cat (c := { data := #[74, 46, 84, 77, 80] }) (by decide)
  have c1 : w.cell? ⟨j, 1, none⟩ = some (.string p) := cell_block h 1 _ rfl
  have hl := block_lt h
  clear h hp
  go_enter Tryz.func74, Tryz.ntmps74
  go_wp2_with (fail)
  go_ret
  exact ⟨rfl, rfl⟩

set_option maxRecDepth 100000 in
set_option maxHeartbeats 1000000 in
theorem segments_none (b m j : Nat) (cap : Int) (p : ByteArray) (seg : Int) (w : World) (h : DiskAt w b cap m) (hj : JAt w j b p seg) (hp : PreOK p) : Calls Tryz.prog 71 #[.pointer (some ⟨j, 0, none⟩)] w
    fun e w' => e = .returned (.tuple #[.slice none 0 0, .int .i64 0]) ∧ Below w.heap.size w w' := by
  have hcat := hp.cat (c := { data := #[74, 45] }) (by decide)
  have c0 : w.cell? ⟨j, 0, none⟩ = some (.pointer (some ⟨b, 0, none⟩)) := cell_block hj 0 _ rfl
  have c1 : w.cell? ⟨j, 1, none⟩ = some (.string p) := cell_block hj 1 _ rfl
  have hl := block_lt hj
  have H := Lib.hid h
  clear h hp hj
  go_enter Tryz.func71, Tryz.ntmps71
  go_wp2_with (fail)
  refine (list_none b m cap _ w H.out).mono ?_
  rintro e w1 ⟨rfl, hb⟩
  clear H c0 c1 hl
  have HB := Lib.hid hb
  clear hb
  go_wp2_with (fail)
  go_loopw [4, 24] (fun l i wr => l = .slice none 0 0 ∧ i = .int .i64 0 ∧ wr = w1) (fun _ _ _ => 0)
  case atStart => exact ⟨rfl, rfl, rfl⟩
  case round =>
    obtain ⟨rfl, rfl, rfl⟩ := hrel
    go_wp2_with (fail)
    refine (sort_none_j _ _).mono ?_
    rintro e w2 ⟨rfl, hw2⟩
    obtain rfl := hw2.symm
    go_wp2_with (fail)
    go_ret2
    exact ⟨rfl, HB.out⟩

set_option maxRecDepth 100000 in
set_option maxHeartbeats 1000000 in
theorem read_none (w : World) : Calls Tryz.prog 72 #[.slice none 0 0] w
    fun e w' => e = .returned (.tuple #[.agg #[.int .i64 0, .int .i64 0, .int .i64 0, .int .i64 0, .slice none 0 0, .int .i64 0, .int .i64 0, .bool false, .bool false, .int .i64 0], .int .i64 0, .bool false, .bool true]) ∧ Below w.heap.size w w' := by
  have hbx := World.alloc_at w (.cells #[.int .i64 0, .int .i64 0, .int .i64 0, .int .i64 0, .slice none 0 0, .int .i64 0, .int .i64 0, .bool false, .bool false, .int .i64 0] 171)
  have hb := below_alloc1 w (.cells #[.int .i64 0, .int .i64 0, .int .i64 0, .int .i64 0, .slice none 0 0, .int .i64 0, .int .i64 0, .bool false, .bool false, .int .i64 0] 171)
  have HX := Lib.hid hbx
  have HB := Lib.hid hb
  clear hbx hb
  go_enter Tryz.func72, Tryz.ntmps72
  go_wp2_with (fail)
  generalize w.alloc (.cells #[.int .i64 0, .int .i64 0, .int .i64 0, .int .i64 0, .slice none 0 0, .int .i64 0, .int .i64 0, .bool false, .bool false, .int .i64 0] 171) = W at HX HB ⊢
  go_loopw [3, 49] (fun a i wr => a = .int .i64 (-1) ∧ i = .int .i64 0 ∧ wr = W) (fun _ _ _ => 0)
  case atStart => exact ⟨rfl, rfl, rfl⟩
  case round =>
    obtain ⟨rfl, rfl, rfl⟩ := hrel
    have c0 : wr.cell? ⟨w.heap.size, 0, none⟩ = some (.int .i64 0) := cell_block HX.out 0 _ rfl
    have c1 : wr.cell? ⟨w.heap.size, 1, none⟩ = some (.int .i64 0) := cell_block HX.out 1 _ rfl
    have c2 : wr.cell? ⟨w.heap.size, 2, none⟩ = some (.int .i64 0) := cell_block HX.out 2 _ rfl
    have c3 : wr.cell? ⟨w.heap.size, 3, none⟩ = some (.int .i64 0) := cell_block HX.out 3 _ rfl
    have c4 : wr.cell? ⟨w.heap.size, 4, none⟩ = some (.slice none 0 0) := cell_block HX.out 4 _ rfl
    have c5 : wr.cell? ⟨w.heap.size, 5, none⟩ = some (.int .i64 0) := cell_block HX.out 5 _ rfl
    have c6 : wr.cell? ⟨w.heap.size, 6, none⟩ = some (.int .i64 0) := cell_block HX.out 6 _ rfl
    have c7 : wr.cell? ⟨w.heap.size, 7, none⟩ = some (.bool false) := cell_block HX.out 7 _ rfl
    have c8 : wr.cell? ⟨w.heap.size, 8, none⟩ = some (.bool false) := cell_block HX.out 8 _ rfl
    have c9 : wr.cell? ⟨w.heap.size, 9, none⟩ = some (.int .i64 0) := cell_block HX.out 9 _ rfl
    have hf := frozen_block HX.out
    have hl := block_lt HX.out
    go_wp2_with (fail)
    rw [setCell_id c0, setCell_id c1, setCell_id c2, setCell_id c3, setCell_id c4, setCell_id c5, setCell_id c6, setCell_id c7, setCell_id c8, setCell_id c9]
    refine bodyPost_ret (results_cell_tmp3_row rfl _ _ w.heap.size 171 _ (0, 0) _ _ _ _ rfl rfl rfl rfl HX.out Tryz.underlying171 rfl (by kernel_rfl)) rfl ?_
    exact ⟨rfl, HB.out⟩
end Go.Proofs.YtjoaldaldcpfeaaGreatDoor
