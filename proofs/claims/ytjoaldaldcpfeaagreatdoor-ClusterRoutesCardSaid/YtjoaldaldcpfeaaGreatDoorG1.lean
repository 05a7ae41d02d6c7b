/-
  The law ClusterChecks: for every configuration it returns true.
-/
import Derived.Test.YtjoaldaldcpfeaaGreatDoorK5
namespace Go.Proofs.YtjoaldaldcpfeaaGreatDoor
open Go.RowKit

set_option maxRecDepth 100000 in
theorem packets_none (X : Nat) (w : World) (c20 : w.cell? ⟨X, 20, none⟩ = some (.slice none 0 0)) (hX : X < w.heap.size) :
    Calls Tryz.prog 8 #[.pointer (some ⟨X, 0, none⟩)] w fun e w' => e = .returned (.slice none 0 0) ∧ w' = w := by
  go_enter Tryz.func8, Tryz.ntmps8
  go_wp2_with (fail)
  go_loopw [3, 11] (fun s i wr => s = .slice none 0 0 ∧ i = .int .i64 0 ∧ wr = w) (fun _ _ _ => 0)
  case atStart => exact ⟨rfl, rfl, rfl⟩
  case round =>
    obtain ⟨rfl, rfl, rfl⟩ := hrel
    go_wp2_with (fail)
    go_ret
    exact ⟨rfl, rfl⟩

theorem check_zero {c : CF} {fs : List FM} {ss : List (List Int)} (h : checkV c fs ss = 0) : roomOK c ∧ schemaOK fs ∧ splitsOK ss ∧ openV c.r = 0 := by
  unfold checkV at h
  by_cases h1 : roomOK c
  · rw [if_pos h1] at h
    by_cases h2 : schemaOK fs
    · rw [if_pos h2] at h
      by_cases h3 : splitsOK ss
      · rw [if_pos h3] at h
        exact ⟨h1, h2, h3, h⟩
      · rw [if_neg h3] at h; cases h
    · rw [if_neg h2] at h; cases h
  · rw [if_neg h1] at h; cases h
theorem mul_bd {a b : Int} (h1 : 1 ≤ a) (h2 : a ≤ 7) (h3 : 0 ≤ b) (h4 : b ≤ 7) : 0 ≤ a * (b + 1) ∧ a * (b + 1) ≤ 56 :=
  ⟨Int.mul_nonneg (by omega) (by omega), Int.le_trans (Int.mul_le_mul h2 (show b + 1 ≤ 8 by omega) (by omega) (by omega)) (by decide)⟩

set_option maxRecDepth 100000 in
set_option maxHeartbeats 4000000 in
theorem law_checks (c : CF) (fs : List FM) (ps : List (BR × List Int)) (w : World) (h : CFAt w c fs ps) :
    Calls Tryz.prog 3 #[.agg c.cells] w fun e w' => e = .returned (.bool true) ∧ Below w.heap.size w w' := by
  have hb := below_alloc1 w (.cells c.cells 36)
  have HX := Lib.hid (World.alloc_at w (.cells c.cells 36))
  have HB := Lib.hid hb
  have HC := Lib.hid (h.below hb)
  clear h hb
  have eCF : c.cells = #[.int .i64 c.nodes, .int .i64 c.disk, .slice c.fA c.fn c.fc, .slice c.sA c.sn c.sc, .int .i64 c.r.id, .slice c.r.pA c.r.pn c.r.pc, .int .i64 c.r.le, .int .i64 c.r.mo, .int .i64 c.r.be, .int .i64 c.r.ba, .int .i64 c.r.blk, .int .i64 c.r.bits, .int .i64 c.r.mem, .int .i64 c.r.stall, .int .i64 c.r.wi, .int .i64 c.r.ra, .int .i64 c.r.pm, .int .i64 c.r.seg] := rfl
  rw [eCF]
  go_enter Tryz.func3, Tryz.ntmps3
  rw [← eCF]
  go_upto_region 1 with (fail)
  rw [← eCF]
  clear eCF
  generalize w.alloc (.cells c.cells 36) = W at HX HB HC ⊢
  obtain ⟨x, hx⟩ : ∃ x, x = w.heap.size := ⟨_, rfl⟩
  rw [← hx] at HX ⊢
  clear hx
  go_wp2_with (refine wpList_load_row rfl 36 (.tmp 1) rfl x rfl 36 c.cells (0, 0) _ HX.out Tryz.underlying36 rfl (by kernel_rfl) ?_)
  refine (check_ref c fs ps W HC.out).mono ?_
  rintro e w2 ⟨rfl, hb2⟩
  have HX2 := Lib.hid ((hb2.block _ (block_lt HX.out)).trans HX.out)
  have HB2 := Lib.hid (HB.out.trans (hb2.mono HB.out.size))
  have HC2 := Lib.hid (HC.out.below hb2)
  clear HX HB HC hb2
  go_wp2_with (refine wpList_load_row rfl 36 (.tmp 1) rfl x rfl 36 c.cells (0, 0) _ HX2.out Tryz.underlying36 rfl (by kernel_rfl) ?_)
  refine (check_any c fs ps w2 HC2.out).mono ?_
  rintro e w3 ⟨rfl, hb3⟩
  have HX3 := Lib.hid ((hb3.block _ (block_lt HX2.out)).trans HX2.out)
  have HB3 := Lib.hid (HB2.out.trans (hb3.mono HB2.out.size))
  have HC3 := Lib.hid (HC2.out.below hb3)
  clear HX2 HB2 HC2 hb3
  by_cases hv : checkV c fs (ps.map (·.2)) = 0
  case neg =>
    have HN := Lib.hid (new_cno c fs ps w3 HC3.out hv)
    generalize checkV c fs (ps.map (·.2)) = v at hv HN ⊢
    have e1 : (v == 0) = false := by rw [beq_eq_false_iff_ne]; exact hv
    have e2 : (v != 0) = true := by rw [bne_iff_ne]; exact hv
    clear hv
    go_wp2_with (refine wpList_load_row rfl 36 (.tmp 1) rfl x rfl 36 c.cells (0, 0) _ HX3.out Tryz.underlying36 rfl (by kernel_rfl) ?_)
    refine HN.out.mono ?_
    rintro e w4 ⟨rfl, hb4⟩
    have HB4 := Lib.hid (HB3.out.trans (hb4.mono HB3.out.size))
    clear hb4
    go_wp2_with (fail)
    go_ret
    exact ⟨rfl, HB4.out⟩
  case pos =>
  rw [hv]
  obtain ⟨h1, h2, h3, h4⟩ := check_zero hv
  have hl7 : ps.length ≤ 7 := by have := h3.len; rwa [List.length_map] at this
  obtain ⟨m0, m1⟩ := mul_bd h1.1.1 h1.1.2 (show (0 : Int) ≤ ps.length by omega) (show (ps.length : Int) ≤ 7 by omega)
  have c0 : w3.cell? ⟨x, 0, none⟩ = some (.int .i64 c.nodes) := cell_block HX3.out 0 _ rfl
  have c3 : w3.cell? ⟨x, 3, none⟩ = some (.slice c.sA ps.length c.sc) := by have := HC3.out.sn; rw [← this]; exact cell_block HX3.out 3 _ rfl
  have lx := block_lt HX3.out
  have HN := Lib.hid (new_cyes c fs ps w3 HC3.out h1 h2 h3 h4)
  clear hv h1 h2 h3 h4
  by_cases hbig : 24 < c.nodes * ((ps.length : Int) + 1)
  · go_wp2_with (fail)
    go_ret
    exact ⟨rfl, HB3.out⟩
  · go_wp2_with (refine wpList_load_row rfl 36 (.tmp 1) rfl x rfl 36 c.cells (0, 0) _ HX3.out Tryz.underlying36 rfl (by kernel_rfl) ?_)
    refine HN.out.mono ?_
    rintro e w4 ⟨X, A, k', qs, rfl, g3, g20, gX, _, _, hb4⟩
    have HB4 := Lib.hid (HB3.out.trans (hb4.mono HB3.out.size))
    clear hb4 c0 c3 lx
    have HP := Lib.hid (packets_none X w4 g20 gX)
    go_wp2_with (go_at_call 8; refine HP.out.mono ?_; rintro e w5 ⟨rfl, rfl⟩)
    go_ret
    exact ⟨rfl, HB4.out⟩
end Go.Proofs.YtjoaldaldcpfeaaGreatDoor
