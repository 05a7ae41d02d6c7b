/-
  strataref19.Check.
-/
import Derived.Test.YtjoaldaldcpfeaaGreatDoorB1
import Derived.Test.YtjoaldaldcpfeaaGreatDoorL3
namespace Go.Proofs.YtjoaldaldcpfeaaGreatDoor
open Go.RowKit

def roomOK (c : CF) : Prop := (1 ≤ c.nodes ∧ c.nodes ≤ 7) ∧ (0 ≤ c.disk ∧ c.disk ≤ 67108864)
instance (c : CF) : Decidable (roomOK c) := by unfold roomOK; infer_instance
open Classical in
noncomputable def checkV (c : CF) (fs : List FM) (ss : List (List Int)) : Int := if roomOK c then (if schemaOK fs then (if splitsOK ss then openV c.r else 190) else 28) else 190

/-- A cluster's configuration in memory. -/
structure CFAt (w : World) (c : CF) (fs : List FM) (ps : List (BR × List Int)) : Prop where
  f : Row encFM 3 w w.heap.size c.fA fs
  fn : c.fn = fs.length
  fl : fs.length ≤ 4611686018427387904
  s : Rows2 w w.heap.size c.sA ps
  sn : c.sn = ps.length
  sl : ps.length ≤ 140737488355328
theorem CFAt.below {w w' : World} {c : CF} {fs : List FM} {ps : List (BR × List Int)} (h : CFAt w c fs ps) (hb : Below w.heap.size w w') : CFAt w' c fs ps :=
  ⟨(h.f.below hb).more hb.size, h.fn, h.fl, (h.s.below hb).more hb.size, h.sn, h.sl⟩

theorem dec_not {p : Prop} [Decidable p] (h : p) : (!decide p) = false := by simp [h]
theorem dec_not' {p : Prop} [Decidable p] (h : ¬ p) : (!decide p) = true := by simp [h]

set_option maxRecDepth 100000 in
set_option maxHeartbeats 8000000 in
theorem check_ref (c : CF) (fs : List FM) (ps : List (BR × List Int)) (w : World) (h : CFAt w c fs ps) :
    Calls Tryz.prog 5 #[.agg c.cells] w fun e w' => e = .returned (.int .i64 (checkV c fs (ps.map (·.2)))) ∧ Below w.heap.size w w' := by
  have hb := below_alloc1 w (.cells c.cells 36)
  have HX := Lib.hid (World.alloc_at w (.cells c.cells 36))
  have HB := Lib.hid hb
  have HC := Lib.hid (h.below hb)
  clear h hb
  have eCF : c.cells = #[.int .i64 c.nodes, .int .i64 c.disk, .slice c.fA c.fn c.fc, .slice c.sA c.sn c.sc, .int .i64 c.r.id, .slice c.r.pA c.r.pn c.r.pc, .int .i64 c.r.le, .int .i64 c.r.mo, .int .i64 c.r.be, .int .i64 c.r.ba, .int .i64 c.r.blk, .int .i64 c.r.bits, .int .i64 c.r.mem, .int .i64 c.r.stall, .int .i64 c.r.wi, .int .i64 c.r.ra, .int .i64 c.r.pm, .int .i64 c.r.seg] := rfl
  rw [eCF]
  go_enter Tryz.func5, Tryz.ntmps5
  rw [← eCF]
  go_upto_region 1 with (fail)
  rw [← eCF]
  clear eCF
  obtain ⟨x, hx⟩ : ∃ x, x = w.heap.size := ⟨_, rfl⟩
  rw [← hx] at HX ⊢
  have HXX := Lib.hid hx
  clear hx
  generalize w.alloc (.cells c.cells 36) = W at HX HB HC ⊢
  obtain ⟨c0, c1, c2, c3, -, -, c6, c7, c8, c9, c10, c11, c12, c13, c14, c15, c16, c17⟩ := cf_at HX.out
  have l1 := block_lt HX.out
  go_cut [16] (fun v wx => wx = W ∧ v = .bool (!decide (roomOK c)))
  case first =>
    by_cases q1 : 1 ≤ c.nodes ∧ c.nodes ≤ 7
    · replace q1 := Lib.hid q1
      go_wp2_with (fail)
      refine (in19_yes _ _ _ _ q1.out).mono ?_
      rintro e w1 ⟨rfl, hw1⟩
      obtain rfl : W = w1 := hw1.symm
      by_cases q2 : 0 ≤ c.disk ∧ c.disk ≤ 67108864
      · replace q2 := Lib.hid q2
        go_wp2_with (fail)
        refine (in19_yes _ _ _ _ q2.out).mono ?_
        rintro e w1 ⟨rfl, hw1⟩
        obtain rfl : W = w1 := hw1.symm
        go_wp2_with (fail)
        go_meet
        exact ⟨rfl, congrArg Value.bool (dec_not (show roomOK c from ⟨q1.out, q2.out⟩)).symm⟩
      · replace q2 := Lib.hid q2
        go_wp2_with (fail)
        refine (in19_no _ _ _ _ q2.out).mono ?_
        rintro e w1 ⟨rfl, hw1⟩
        obtain rfl : W = w1 := hw1.symm
        go_wp2_with (fail)
        go_meet
        exact ⟨rfl, congrArg Value.bool (dec_not' (fun h : roomOK c => q2.out (by first | exact h.1 | exact h.2))).symm⟩
    · replace q1 := Lib.hid q1
      go_wp2_with (fail)
      refine (in19_no _ _ _ _ q1.out).mono ?_
      rintro e w1 ⟨rfl, hw1⟩
      obtain rfl : W = w1 := hw1.symm
      go_wp2_with (fail)
      go_meet
      exact ⟨rfl, congrArg Value.bool (dec_not' (fun h : roomOK c => q1.out (by first | exact h.1 | exact h.2))).symm⟩
  case rest =>
  obtain ⟨rfl, rfl⟩ := hcut
  by_cases hroom : roomOK c
  case neg =>
    rw [dec_not' hroom]
    have HQ := Lib.hid hroom
    clear hroom
    have hv : checkV c fs (ps.map (·.2)) = 190 := by unfold checkV; rw [if_neg HQ.out]
    have HV := Lib.hid hv
    clear hv
    go_wp2_with (fail)
    go_ret
    exact ⟨ret_int HV.out.symm, HB.out⟩
  case pos =>
  rw [dec_not hroom]
  have R1 := Lib.hid hroom
  clear hroom
  rw [HC.out.fn] at c2
  rw [HC.out.sn] at c3
  go_wp2_with (fail)
  refine (schema_ref c.fA c.fc fs wc HC.out.f HC.out.fl).mono ?_
  rintro e w2 ⟨rfl, hb2⟩
  have HX2 := Lib.hid ((hb2.block _ (block_lt HX.out)).trans HX.out)
  have HB2 := Lib.hid (HB.out.trans (hb2.mono HB.out.size))
  have HC2 := Lib.hid (HC.out.below hb2)
  clear c0 c1 c2 c3 c6 c7 c8 c9 c10 c11 c12 c13 c14 c15 c16 c17 l1 HX HB HC hb2
  by_cases hsch : schemaOK fs
  case neg =>
    rw [schemaV_f hsch]
    have HQ := Lib.hid hsch
    clear hsch
    have hv : checkV c fs (ps.map (·.2)) = 28 := by unfold checkV; rw [if_pos R1.out, if_neg HQ.out]
    have HV := Lib.hid hv
    clear hv
    go_wp2_with (fail)
    go_ret
    exact ⟨ret_int HV.out.symm, HB2.out⟩
  case pos =>
  rw [schemaV_t hsch]
  have R2 := Lib.hid hsch
  clear hsch
  obtain ⟨-, -, -, c3, -⟩ := cf_at HX2.out
  have l1 := block_lt HX2.out
  rw [HC2.out.sn] at c3
  go_wp2_with (fail)
  refine (splits_ref c.sA ps.length c.sc ps w2 HC2.out.s rfl HC2.out.sl).mono ?_
  rintro e w3 ⟨rfl, j3, hj3⟩
  have hb3 : Below w2.heap.size w2 w3 := by rw [hj3]; exact below_drewN _
  have HX3 := Lib.hid ((hb3.block _ (block_lt HX2.out)).trans HX2.out)
  have HB3 := Lib.hid (HB2.out.trans (hb3.mono HB2.out.size))
  have HC3 := Lib.hid (HC2.out.below hb3)
  clear c3 l1 HX2 HB2 HC2 hb3 hj3
  by_cases hspl : splitsOK (ps.map (·.2))
  case neg =>
    rw [splitsB_f hspl]
    have HQ := Lib.hid hspl
    clear hspl
    have hv : checkV c fs (ps.map (·.2)) = 190 := by unfold checkV; rw [if_pos R1.out, if_pos R2.out, if_neg HQ.out]
    have HV := Lib.hid hv
    clear hv
    go_wp2_with (fail)
    go_ret
    exact ⟨ret_int HV.out.symm, HB3.out⟩
  case pos =>
  rw [splitsB_t hspl]
  have R3 := Lib.hid hspl
  clear hspl
  obtain ⟨-, -, -, -, -, -, -, -, -, -, -, -, -, -, c14, c15, c16, -⟩ := cf_at HX3.out
  have l1 := block_lt HX3.out
  go_upto_region 9 with (fail)
  have hb4 := below_alloc1 w3 (.cells #[.int .i64 c.r.wi, .int .i64 c.r.ra, .int .i64 c.r.pm] 32)
  have HY := Lib.hid (World.alloc_at w3 (.cells #[.int .i64 c.r.wi, .int .i64 c.r.ra, .int .i64 c.r.pm] 32))
  have HX4 := Lib.hid ((hb4.block _ (block_lt HX3.out)).trans HX3.out)
  have HB4 := Lib.hid (HB3.out.trans (hb4.mono HB3.out.size))
  have HC4 := Lib.hid (HC3.out.below hb4)
  clear c14 c15 c16 l1 HX3 HB3 HC3 hb4
  obtain ⟨y, hy⟩ : ∃ y, y = w3.heap.size := ⟨_, rfl⟩
  rw [← hy] at HY ⊢
  clear hy
  generalize w3.alloc (.cells #[.int .i64 c.r.wi, .int .i64 c.r.ra, .int .i64 c.r.pm] 32) = w4 at HY HX4 HB4 HC4 ⊢
  have d0 : w4.cell? ⟨y, 0, none⟩ = some (.int .i64 c.r.wi) := cell_block HY.out 0 _ rfl
  have d1 : w4.cell? ⟨y, 1, none⟩ = some (.int .i64 c.r.ra) := cell_block HY.out 1 _ rfl
  have d2 : w4.cell? ⟨y, 2, none⟩ = some (.int .i64 c.r.pm) := cell_block HY.out 2 _ rfl
  have l2 := block_lt HY.out
  go_cut [47] (fun v wx => wx = w4 ∧ v = .bool (!decide (polOK c.r.wi c.r.ra c.r.pm)))
  case first =>
    by_cases q1 : 2 ≤ c.r.wi ∧ c.r.wi ≤ 16
    · replace q1 := Lib.hid q1
      go_wp2_with (fail)
      refine (in19_yes _ _ _ _ q1.out).mono ?_
      rintro e w1 ⟨rfl, hw1⟩
      obtain rfl : w4 = w1 := hw1.symm
      by_cases q2 : 2 ≤ c.r.ra ∧ c.r.ra ≤ 64
      · replace q2 := Lib.hid q2
        go_wp2_with (fail)
        refine (in19_yes _ _ _ _ q2.out).mono ?_
        rintro e w1 ⟨rfl, hw1⟩
        obtain rfl : w4 = w1 := hw1.symm
        by_cases q3 : c.r.wi ≤ c.r.pm ∧ c.r.pm ≤ 64
        · replace q3 := Lib.hid q3
          go_wp2_with (fail)
          refine (in19_yes _ _ _ _ q3.out).mono ?_
          rintro e w1 ⟨rfl, hw1⟩
          obtain rfl : w4 = w1 := hw1.symm
          go_wp2_with (fail)
          go_meet
          exact ⟨rfl, congrArg Value.bool (dec_not (show polOK c.r.wi c.r.ra c.r.pm from ⟨q1.out, q2.out, q3.out⟩)).symm⟩
        · replace q3 := Lib.hid q3
          go_wp2_with (fail)
          refine (in19_no _ _ _ _ q3.out).mono ?_
          rintro e w1 ⟨rfl, hw1⟩
          obtain rfl : w4 = w1 := hw1.symm
          go_wp2_with (fail)
          go_meet
          exact ⟨rfl, congrArg Value.bool (dec_not' (fun h : polOK c.r.wi c.r.ra c.r.pm => q3.out (by first | exact h.1 | exact h.2.1 | exact h.2.2))).symm⟩
      · replace q2 := Lib.hid q2
        go_wp2_with (fail)
        refine (in19_no _ _ _ _ q2.out).mono ?_
        rintro e w1 ⟨rfl, hw1⟩
        obtain rfl : w4 = w1 := hw1.symm
        go_wp2_with (fail)
        go_meet
        exact ⟨rfl, congrArg Value.bool (dec_not' (fun h : polOK c.r.wi c.r.ra c.r.pm => q2.out (by first | exact h.1 | exact h.2.1 | exact h.2.2))).symm⟩
    · replace q1 := Lib.hid q1
      go_wp2_with (fail)
      refine (in19_no _ _ _ _ q1.out).mono ?_
      rintro e w1 ⟨rfl, hw1⟩
      obtain rfl : w4 = w1 := hw1.symm
      go_wp2_with (fail)
      go_meet
      exact ⟨rfl, congrArg Value.bool (dec_not' (fun h : polOK c.r.wi c.r.ra c.r.pm => q1.out (by first | exact h.1 | exact h.2.1 | exact h.2.2))).symm⟩
  case rest =>
  obtain ⟨rfl, rfl⟩ := hcut
  clear d0 d1 d2 l2
  by_cases hpol : polOK c.r.wi c.r.ra c.r.pm
  case neg =>
    rw [dec_not' hpol]
    have HQ := Lib.hid hpol
    clear hpol
    have hv : checkV c fs (ps.map (·.2)) = 124 := by unfold checkV; rw [if_pos R1.out, if_pos R2.out, if_pos R3.out]; unfold openV; rw [if_neg HQ.out]
    have HV := Lib.hid hv
    clear hv
    go_wp2_with (fail)
    go_ret
    exact ⟨ret_int HV.out.symm, HB4.out⟩
  case pos =>
  rw [dec_not hpol]
  have R4 := Lib.hid hpol
  clear hpol HY
  obtain ⟨-, -, -, -, c4, c5, c6, c7, c8, c9, -⟩ := cf_at HX4.out
  have l1 := block_lt HX4.out
  go_upto_region 12 with (fail)
  have hb5 := below_alloc1 wc (.cells #[.int .i64 c.r.id, .slice c.r.pA c.r.pn c.r.pc, .int .i64 c.r.le, .int .i64 c.r.mo, .int .i64 c.r.be, .int .i64 c.r.ba] 28)
  have HY := Lib.hid (World.alloc_at wc (.cells #[.int .i64 c.r.id, .slice c.r.pA c.r.pn c.r.pc, .int .i64 c.r.le, .int .i64 c.r.mo, .int .i64 c.r.be, .int .i64 c.r.ba] 28))
  have HX5 := Lib.hid ((hb5.block _ (block_lt HX4.out)).trans HX4.out)
  have HB5 := Lib.hid (HB4.out.trans (hb5.mono HB4.out.size))
  have HC5 := Lib.hid (HC4.out.below hb5)
  clear c4 c5 c6 c7 c8 c9 l1 HX4 HB4 HC4 hb5
  obtain ⟨z, hz⟩ : ∃ z, z = wc.heap.size := ⟨_, rfl⟩
  rw [← hz] at HY ⊢
  clear hz
  generalize wc.alloc (.cells #[.int .i64 c.r.id, .slice c.r.pA c.r.pn c.r.pc, .int .i64 c.r.le, .int .i64 c.r.mo, .int .i64 c.r.be, .int .i64 c.r.ba] 28) = w5 at HY HX5 HB5 HC5 ⊢
  have d2 : w5.cell? ⟨z, 2, none⟩ = some (.int .i64 c.r.le) := cell_block HY.out 2 _ rfl
  have d3 : w5.cell? ⟨z, 3, none⟩ = some (.int .i64 c.r.mo) := cell_block HY.out 3 _ rfl
  have d4 : w5.cell? ⟨z, 4, none⟩ = some (.int .i64 c.r.be) := cell_block HY.out 4 _ rfl
  have d5 : w5.cell? ⟨z, 5, none⟩ = some (.int .i64 c.r.ba) := cell_block HY.out 5 _ rfl
  have l2 := block_lt HY.out
  go_cut [78] (fun v wx => wx = w5 ∧ v = .bool (!decide (raftOK c.r.le c.r.mo c.r.be c.r.ba)))
  case first =>
    by_cases q1 : 1 ≤ c.r.be
    · skip
      by_cases q2 : c.r.be < c.r.le
      · skip
        by_cases q3 : c.r.le ≤ c.r.mo
        · skip
          by_cases q4 : c.r.mo ≤ 1000
          · skip
            by_cases q5 : 1 ≤ c.r.ba ∧ c.r.ba ≤ 16
            · replace q5 := Lib.hid q5
              go_wp2_with (fail)
              refine (in19_yes _ _ _ _ q5.out).mono ?_
              rintro e w1 ⟨rfl, hw1⟩
              obtain rfl : w5 = w1 := hw1.symm
              go_wp2_with (fail)
              go_meet
              exact ⟨rfl, congrArg Value.bool ((show _ = false by simp; omega).trans (dec_not (show raftOK c.r.le c.r.mo c.r.be c.r.ba from ⟨⟨q1, q2, q3, q4⟩, q5.out⟩)).symm)⟩
            · replace q5 := Lib.hid q5
              go_wp2_with (fail)
              refine (in19_no _ _ _ _ q5.out).mono ?_
              rintro e w1 ⟨rfl, hw1⟩
              obtain rfl : w5 = w1 := hw1.symm
              go_wp2_with (fail)
              go_meet
              exact ⟨rfl, congrArg Value.bool (dec_not' (fun h : raftOK c.r.le c.r.mo c.r.be c.r.ba => q5.out (by first | exact h.1.1 | exact h.1.2.1 | exact h.1.2.2.1 | exact h.1.2.2.2 | exact h.2))).symm⟩
          · have HQ := Lib.hid (show ¬ raftOK c.r.le c.r.mo c.r.be c.r.ba from (fun h : raftOK c.r.le c.r.mo c.r.be c.r.ba => q4 (by first | exact h.1.1 | exact h.1.2.1 | exact h.1.2.2.1 | exact h.1.2.2.2 | exact h.2)))
            go_wp2_with (fail)
            go_meet
            exact ⟨rfl, congrArg Value.bool (dec_not' HQ.out).symm⟩
        · have HQ := Lib.hid (show ¬ raftOK c.r.le c.r.mo c.r.be c.r.ba from (fun h : raftOK c.r.le c.r.mo c.r.be c.r.ba => q3 (by first | exact h.1.1 | exact h.1.2.1 | exact h.1.2.2.1 | exact h.1.2.2.2 | exact h.2)))
          go_wp2_with (fail)
          go_meet
          exact ⟨rfl, congrArg Value.bool (dec_not' HQ.out).symm⟩
      · have HQ := Lib.hid (show ¬ raftOK c.r.le c.r.mo c.r.be c.r.ba from (fun h : raftOK c.r.le c.r.mo c.r.be c.r.ba => q2 (by first | exact h.1.1 | exact h.1.2.1 | exact h.1.2.2.1 | exact h.1.2.2.2 | exact h.2)))
        go_wp2_with (fail)
        go_meet
        exact ⟨rfl, congrArg Value.bool (dec_not' HQ.out).symm⟩
    · have HQ := Lib.hid (show ¬ raftOK c.r.le c.r.mo c.r.be c.r.ba from (fun h : raftOK c.r.le c.r.mo c.r.be c.r.ba => q1 (by first | exact h.1.1 | exact h.1.2.1 | exact h.1.2.2.1 | exact h.1.2.2.2 | exact h.2)))
      go_wp2_with (fail)
      go_meet
      exact ⟨rfl, congrArg Value.bool (dec_not' HQ.out).symm⟩
  case rest =>
  obtain ⟨rfl, rfl⟩ := hcut
  clear d2 d3 d4 d5 l2
  by_cases hraft : raftOK c.r.le c.r.mo c.r.be c.r.ba
  case neg =>
    rw [dec_not' hraft]
    have HQ := Lib.hid hraft
    clear hraft
    have hv : checkV c fs (ps.map (·.2)) = 160 := by unfold checkV; rw [if_pos R1.out, if_pos R2.out, if_pos R3.out]; unfold openV; rw [if_pos R4.out, if_neg HQ.out]
    have HV := Lib.hid hv
    clear hv
    go_wp2_with (fail)
    go_ret
    exact ⟨ret_int HV.out.symm, HB5.out⟩
  case pos =>
  rw [dec_not hraft]
  have R5 := Lib.hid hraft
  clear hraft HY
  obtain ⟨-, -, -, -, -, -, -, -, -, -, c10, c11, c12, c13, -⟩ := cf_at HX5.out
  have l1 := block_lt HX5.out
  go_upto_region 15 with (fail)
  have hb6 := below_alloc1 wc (.cells #[.int .i64 c.r.blk, .int .i64 c.r.bits, .int .i64 c.r.mem, .int .i64 c.r.stall] 30)
  have HY := Lib.hid (World.alloc_at wc (.cells #[.int .i64 c.r.blk, .int .i64 c.r.bits, .int .i64 c.r.mem, .int .i64 c.r.stall] 30))
  have HX6 := Lib.hid ((hb6.block _ (block_lt HX5.out)).trans HX5.out)
  have HB6 := Lib.hid (HB5.out.trans (hb6.mono HB5.out.size))
  have HC6 := Lib.hid (HC5.out.below hb6)
  clear c10 c11 c12 c13 l1 HX5 HB5 HC5 hb6
  obtain ⟨v, hz⟩ : ∃ z, z = wc.heap.size := ⟨_, rfl⟩
  rw [← hz] at HY ⊢
  clear hz
  generalize wc.alloc (.cells #[.int .i64 c.r.blk, .int .i64 c.r.bits, .int .i64 c.r.mem, .int .i64 c.r.stall] 30) = w6 at HY HX6 HB6 HC6 ⊢
  obtain ⟨d0, d1, d2, d3⟩ := cells4 HY.out
  have l2 := block_lt HY.out
  go_cut [103] (fun v wx => wx = w6 ∧ v = .bool (!decide (optOK c.r)))
  case first =>
    by_cases q1 : 64 ≤ c.r.blk ∧ c.r.blk ≤ 65536
    · replace q1 := Lib.hid q1
      go_wp2_with (fail)
      refine (in19_yes _ _ _ _ q1.out).mono ?_
      rintro e w1 ⟨rfl, hw1⟩
      obtain rfl : w6 = w1 := hw1.symm
      by_cases q2 : 0 ≤ c.r.bits ∧ c.r.bits ≤ 20
      · replace q2 := Lib.hid q2
        go_wp2_with (fail)
        refine (in19_yes _ _ _ _ q2.out).mono ?_
        rintro e w1 ⟨rfl, hw1⟩
        obtain rfl : w6 = w1 := hw1.symm
        by_cases q3 : 1 ≤ c.r.mem ∧ c.r.mem ≤ 4194304
        · replace q3 := Lib.hid q3
          go_wp2_with (fail)
          refine (in19_yes _ _ _ _ q3.out).mono ?_
          rintro e w1 ⟨rfl, hw1⟩
          obtain rfl : w6 = w1 := hw1.symm
          by_cases q4 : 1 ≤ c.r.stall ∧ c.r.stall ≤ 64
          · replace q4 := Lib.hid q4
            go_wp2_with (fail)
            refine (in19_yes _ _ _ _ q4.out).mono ?_
            rintro e w1 ⟨rfl, hw1⟩
            obtain rfl : w6 = w1 := hw1.symm
            go_wp2_with (fail)
            go_meet
            exact ⟨rfl, congrArg Value.bool (dec_not (show optOK c.r from ⟨q1.out, q2.out, q3.out, q4.out⟩)).symm⟩
          · replace q4 := Lib.hid q4
            go_wp2_with (fail)
            refine (in19_no _ _ _ _ q4.out).mono ?_
            rintro e w1 ⟨rfl, hw1⟩
            obtain rfl : w6 = w1 := hw1.symm
            go_wp2_with (fail)
            go_meet
            exact ⟨rfl, congrArg Value.bool (dec_not' (fun h : optOK c.r => q4.out (by first | exact h.1 | exact h.2.1 | exact h.2.2.1 | exact h.2.2.2))).symm⟩
        · replace q3 := Lib.hid q3
          go_wp2_with (fail)
          refine (in19_no _ _ _ _ q3.out).mono ?_
          rintro e w1 ⟨rfl, hw1⟩
          obtain rfl : w6 = w1 := hw1.symm
          go_wp2_with (fail)
          go_meet
          exact ⟨rfl, congrArg Value.bool (dec_not' (fun h : optOK c.r => q3.out (by first | exact h.1 | exact h.2.1 | exact h.2.2.1 | exact h.2.2.2))).symm⟩
      · replace q2 := Lib.hid q2
        go_wp2_with (fail)
        refine (in19_no _ _ _ _ q2.out).mono ?_
        rintro e w1 ⟨rfl, hw1⟩
        obtain rfl : w6 = w1 := hw1.symm
        go_wp2_with (fail)
        go_meet
        exact ⟨rfl, congrArg Value.bool (dec_not' (fun h : optOK c.r => q2.out (by first | exact h.1 | exact h.2.1 | exact h.2.2.1 | exact h.2.2.2))).symm⟩
    · replace q1 := Lib.hid q1
      go_wp2_with (fail)
      refine (in19_no _ _ _ _ q1.out).mono ?_
      rintro e w1 ⟨rfl, hw1⟩
      obtain rfl : w6 = w1 := hw1.symm
      go_wp2_with (fail)
      go_meet
      exact ⟨rfl, congrArg Value.bool (dec_not' (fun h : optOK c.r => q1.out (by first | exact h.1 | exact h.2.1 | exact h.2.2.1 | exact h.2.2.2))).symm⟩
  case rest =>
  obtain ⟨rfl, rfl⟩ := hcut
  clear d0 d1 d2 d3 l2
  by_cases hopt : optOK c.r
  case neg =>
    rw [dec_not' hopt]
    have HQ := Lib.hid hopt
    clear hopt
    have hv : checkV c fs (ps.map (·.2)) = 111 := by unfold checkV; rw [if_pos R1.out, if_pos R2.out, if_pos R3.out]; unfold openV; rw [if_pos R4.out, if_pos R5.out, if_neg HQ.out]
    have HV := Lib.hid hv
    clear hv
    go_wp2_with (fail)
    go_ret
    exact ⟨ret_int HV.out.symm, HB6.out⟩
  case pos =>
  rw [dec_not hopt]
  have R6 := Lib.hid hopt
  clear hopt HY
  obtain ⟨-, -, -, -, -, -, -, -, -, -, -, -, -, -, -, -, -, c17⟩ := cf_at HX6.out
  have l1 := block_lt HX6.out
  go_wp2_with (fail)
  by_cases hseg : 256 ≤ c.r.seg ∧ c.r.seg ≤ 1048576
  case neg =>
    have HQ := Lib.hid hseg
    clear hseg
    refine (in19_no _ _ _ _ HQ.out).mono ?_
    rintro e w7 ⟨rfl, hw7⟩
    obtain rfl : wc = w7 := hw7.symm
    have hv : checkV c fs (ps.map (·.2)) = 175 := by unfold checkV; rw [if_pos R1.out, if_pos R2.out, if_pos R3.out]; unfold openV; rw [if_pos R4.out, if_pos R5.out, if_pos R6.out]; exact if_neg HQ.out
    have HV := Lib.hid hv
    clear hv
    go_wp2_with (fail)
    go_ret
    exact ⟨ret_int HV.out.symm, HB6.out⟩
  case pos =>
  have HQ := Lib.hid hseg
  clear hseg
  refine (in19_yes _ _ _ _ HQ.out).mono ?_
  rintro e w7 ⟨rfl, hw7⟩
  obtain rfl : wc = w7 := hw7.symm
  have hv : checkV c fs (ps.map (·.2)) = 0 := by unfold checkV; rw [if_pos R1.out, if_pos R2.out, if_pos R3.out]; unfold openV; rw [if_pos R4.out, if_pos R5.out, if_pos R6.out]; exact if_pos HQ.out
  have HV := Lib.hid hv
  clear hv
  go_wp2_with (fail)
  go_ret
  exact ⟨ret_int HV.out.symm, HB6.out⟩
end Go.Proofs.YtjoaldaldcpfeaaGreatDoor
