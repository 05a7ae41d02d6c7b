/-
  A fresh disk: names, List, Delete; squash.Pick at no runs.
-/
import Derived.Test.YtjoaldaldcpfeaaGreatDoorC5
namespace Go.Proofs.YtjoaldaldcpfeaaGreatDoor
open Go.RowKit

set_option maxRecDepth 100000 in
theorem names_none (b m : Nat) (cap : Int) (w : World) (h : DiskAt w b cap m) : Calls Tryz.prog 159 #[.pointer (some ⟨b, 0, none⟩)] w fun e w' => e = .returned (.slice none 0 0) ∧ Below w.heap.size w w' := by
  obtain ⟨c2, c3, hl⟩ := h.cells
  have HM := h.mapG
  clear h
  go_enter Tryz.func159, Tryz.ntmps159
  go_wp2_with (at_range; refine wp_range _ rfl _ 85 rfl 9 252 Tryz.underlying85 m ([] : List (ByteArray × Unit)) rfl HM ?_; intro w2 hrg2 hb2 hz2)
  go_frame
  go_loopw [3] (fun l w3 => l = .slice none 0 0 ∧ Ranging Tryz.prog 9 Value.string (fun _ : Unit => Value.pointer none) w3 m w.heap.size [] ∧ Below w.heap.size w w3) (fun _ _ => 0)
  case atStart => exact ⟨rfl, hrg2, hb2⟩
  case round =>
    obtain ⟨rfl, hrg, hb3⟩ := hrel
    go_wp2_with (at_next; refine wp_next _ rfl _ rfl 9 m w.heap.size [] rfl hrg ?_ ?_)
    · clear hrg
      refine (sort_none_s _).mono ?_
      rintro e w1 ⟨rfl, hw1⟩
      obtain rfl := hw1.symm
      go_wp2_with (fail)
      go_ret
      exact ⟨rfl, hb3⟩

set_option maxRecDepth 100000 in
theorem list_none (b m : Nat) (cap : Int) (s : ByteArray) (w : World) (h : DiskAt w b cap m) : Calls Tryz.prog 102 #[.pointer (some ⟨b, 0, none⟩), .string s] w fun e w' => e = .returned (.slice none 0 0) ∧ Below w.heap.size w w' := by
  go_enter Tryz.func102, Tryz.ntmps102
  go_wp2_with (fail)
  refine (names_none b m cap _ h).mono ?_
  rintro e w1 ⟨rfl, hb⟩
  go_wp2_with (fail)
  go_loopw [5, 11] (fun l i wr => l = .slice none 0 0 ∧ i = .int .i64 0 ∧ wr = w1) (fun _ _ _ => 0)
  case atStart => exact ⟨rfl, rfl, rfl⟩
  case round =>
    obtain ⟨rfl, rfl, rfl⟩ := hrel
    go_wp2_with (fail)
    go_ret
    exact ⟨rfl, hb⟩

theorem cell_new (w : World) (v : Value) (t : TypeId) : (w.alloc (.cells #[v] t)).cell? ⟨w.heap.size, 0, none⟩ = some v := cell_block (World.alloc_at w _) 0 _ rfl

set_option maxRecDepth 100000 in
theorem delete_none (b m : Nat) (cap : Int) (s : ByteArray) (w : World) (h : DiskAt w b cap m) (hs : PathOK s 64) : Calls Tryz.prog 73 #[.pointer (some ⟨b, 0, none⟩), .string s] w fun e w' => e = .returned (.int .i64 42) ∧ Below w.heap.size w w' := by
  have hd := h.below (((below_alloc1 w (.cells #[.pointer (some ⟨b, 0, none⟩)] 56)).alloc (by simp) (.cells #[.string s] 9)))
  have hb := ((below_alloc1 w (.cells #[.pointer (some ⟨b, 0, none⟩)] 56)).alloc (by simp) (.cells #[.string s] 9))
  go_enter Tryz.func73, Tryz.ntmps73
  go_wp2_with (fail)
  refine (look_none b m cap s _ hd hs).mono ?_
  rintro e w1 ⟨rfl, hw1⟩
  obtain rfl := hw1.symm
  go_wp2_with (fail)
  go_ret
  exact ⟨rfl, hb⟩

set_option maxRecDepth 100000 in
theorem sound_none (w : World) : Calls Tryz.prog 47 #[.slice none 0 0] w fun e w' => e = .returned (.bool true) ∧ Below w.heap.size w w' := by
  go_enter Tryz.func47, Tryz.ntmps47
  go_wp2_with (fail)
  rw [run_makeMap]
  go_wp2_with (fail)
  have hb := below_alloc1 w (.map #[] 0)
  generalize w.alloc (.map #[] 0) = W at hb ⊢
  go_loopw [12] (fun i wr => i = .int .i64 0 ∧ wr = W) (fun _ _ => 0)
  case atStart => exact ⟨rfl, rfl⟩
  case round =>
    obtain ⟨rfl, rfl⟩ := hrel
    go_wp2_with (fail)
    go_ret
    exact ⟨rfl, hb⟩

theorem rclone_none (w : World) : Calls Tryz.prog 50 #[.slice none 0 0] w fun e w' => e = .returned (.slice none 0 0) ∧ w' = w := by
  have q : ∀ (w : World) (a : Option Addr) (n c n' c' : Nat), (binOp .eql 125 (.slice a n c) (.slice none n' c')).run Tryz.prog w = .ok (.bool a.isNone) w := fun w a n c n' c' => Lib.run_eql_slice_nil w _ _ a n c n' c' Tryz.underlying125
  go_enter Tryz.func50, Tryz.ntmps50
  go_wp2
  go_ret
  exact ⟨rfl, rfl⟩

def polOK (wi ra pm : Int) : Prop := (2 ≤ wi ∧ wi ≤ 16) ∧ (2 ≤ ra ∧ ra ≤ 64) ∧ (wi ≤ pm ∧ pm ≤ 64)
instance (wi ra pm : Int) : Decidable (polOK wi ra pm) := by unfold polOK; infer_instance
def polV (wi ra pm : Int) : Int := if polOK wi ra pm then 0 else 124
theorem polV_t {wi ra pm : Int} (h : polOK wi ra pm) : polV wi ra pm = 0 := by unfold polV; rw [if_pos h]
theorem polV_f {wi ra pm : Int} (h : ¬ polOK wi ra pm) : polV wi ra pm = 124 := by unfold polV; rw [if_neg h]

set_option maxRecDepth 100000 in
set_option maxHeartbeats 2000000 in
theorem pick_none (wi ra pm : Int) (w : World) : Calls Tryz.prog 35 #[.agg #[.int .i64 wi, .int .i64 ra, .int .i64 pm], .slice none 0 0] w fun e w' => e = .returned (.tuple #[.slice none 0 0, .bool false, .int .i64 (polV wi ra pm)]) ∧ Below w.heap.size w w' := by
  have hbx := World.alloc_at w (.cells #[.int .i64 wi, .int .i64 ra, .int .i64 pm] 32)
  have hb := below_alloc1 w (.cells #[.int .i64 wi, .int .i64 ra, .int .i64 pm] 32)
  have c0 := cell_block hbx 0 _ rfl
  have c1 := cell_block hbx 1 _ rfl
  have c2 := cell_block hbx 2 _ rfl
  have hl := block_lt hbx
  go_enter Tryz.func35, Tryz.ntmps35
  go_wp2_with (fail)
  obtain ⟨x, hx⟩ : ∃ x, x = w.heap.size := ⟨_, rfl⟩
  rw [← hx] at hbx c0 c1 c2 hl
  rw [← hx]
  generalize w.alloc (.cells #[.int .i64 wi, .int .i64 ra, .int .i64 pm] 32) = W at hb hbx c0 c1 c2 hl ⊢
  have HX := Lib.hid hx
  have HB := Lib.hid hb
  clear hx hb hbx
  refine (sout_any _ _ _ _).mono ?_
  rintro e w1 ⟨rfl, hw1⟩
  obtain rfl : W = w1 := hw1.symm
  by_cases h1 : 2 ≤ wi ∧ wi ≤ 16
  · rw [outB_f h1]
    have H1 := Lib.hid h1
    clear h1
    go_wp2_with (fail)
    refine (sout_any _ _ _ _).mono ?_
    rintro e w1 ⟨rfl, hw1⟩
    obtain rfl : W = w1 := hw1.symm
    by_cases h2 : 2 ≤ ra ∧ ra ≤ 64
    · rw [outB_f h2]
      have H2 := Lib.hid h2
      clear h2
      go_wp2_with (fail)
      refine (sout_any _ _ _ _).mono ?_
      rintro e w1 ⟨rfl, hw1⟩
      obtain rfl : W = w1 := hw1.symm
      by_cases h3 : wi ≤ pm ∧ pm ≤ 64
      · rw [outB_f h3]
        have HV := Lib.hid (polV_t ⟨H1.out, H2.out, h3⟩)
        have H3 := Lib.hid h3
        clear h3
        go_wp2_with (fail)
        refine (sound_none _).mono ?_
        rintro e w1 ⟨rfl, hb1⟩
        have hb2 := HB.out.trans (hb1.mono HB.out.size)
        have c0' := (hb1.cell (by simpa using hl)).trans c0
        have c1' := (hb1.cell (by simpa using hl)).trans c1
        have c2' := (hb1.cell (by simpa using hl)).trans c2
        have hl' := Nat.lt_of_lt_of_le hl hb1.size
        clear hb1 HB c0 c1 c2 hl
        go_wp2_with (fail)
        rw [run_makeMap]
        have hb3 := hb2.alloc hb2.size (.map #[] 0)
        have c0 := (Below.cell (p := ⟨x, 0, none⟩) (below_alloc1 w1 (.map #[] 0)) hl').trans c0'
        have c1 := (Below.cell (p := ⟨x, 1, none⟩) (below_alloc1 w1 (.map #[] 0)) hl').trans c1'
        have c2 := (Below.cell (p := ⟨x, 2, none⟩) (below_alloc1 w1 (.map #[] 0)) hl').trans c2'
        have hl : x < (w1.alloc (.map #[] 0)).heap.size := by rw [World.alloc_size]; omega
        clear hb2 c0' c1' c2' hl'
        generalize w1.alloc (.map #[] 0) = W2 at hb3 c0 c1 c2 hl ⊢
        have hp : ¬ (pm < 0) := by have := H1.out; have := H3.out; omega
        have hw : ¬ (wi ≤ 0) := by have := H1.out; omega
        have hw2 : wi ≤ 16 := by have := H1.out; omega
        have hw3 : 2 ≤ wi := by have := H1.out; omega
        go_wp2_with (fail)
        refine (rclone_none _).mono ?_
        rintro e w3 ⟨rfl, hw1⟩
        obtain rfl := hw1.symm
        go_wp2_with (fail)
        refine (sort_none_r _ _).mono ?_
        rintro e w3 ⟨rfl, hw1⟩
        obtain rfl := hw1.symm
        go_wp2_with (fail)
        go_loopw [11] (fun i wr => i = .int .i64 0 ∧ wr = W2) (fun _ _ => 0)
        case atStart => exact ⟨rfl, rfl⟩
        case round =>
          obtain ⟨rfl, rfl⟩ := hrel
          go_wp2_with (fail)
          go_ret3
          exact ⟨by rw [HV.out]; rfl, hb3⟩
      · rw [outB_t h3]
        have HV := Lib.hid (polV_f (wi := wi) (ra := ra) (pm := pm) (fun h => h3 h.2.2))
        clear h3
        go_wp2_with (fail)
        go_ret3
        exact ⟨by rw [HV.out]; rfl, HB.out⟩
    · rw [outB_t h2]
      have HV := Lib.hid (polV_f (wi := wi) (ra := ra) (pm := pm) (fun h => h2 h.2.1))
      clear h2
      go_wp2_with (fail)
      go_ret3
      exact ⟨by rw [HV.out]; rfl, HB.out⟩
  · rw [outB_t h1]
    have HV := Lib.hid (polV_f (wi := wi) (ra := ra) (pm := pm) (fun h => h1 h.1))
    clear h1
    go_wp2_with (fail)
    go_ret3
    exact ⟨by rw [HV.out]; rfl, HB.out⟩
end Go.Proofs.YtjoaldaldcpfeaaGreatDoor
