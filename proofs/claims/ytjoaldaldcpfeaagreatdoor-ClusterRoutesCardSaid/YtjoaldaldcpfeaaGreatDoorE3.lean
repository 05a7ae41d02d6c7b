/-
  cluster.Check where all is right.
-/
import Derived.Test.YtjoaldaldcpfeaaGreatDoorE2
import Derived.Test.YtjoaldaldcpfeaaGreatDoorK1
import Derived.Test.YtjoaldaldcpfeaaGreatDoorK2
namespace Go.Proofs.YtjoaldaldcpfeaaGreatDoor
open Go.RowKit

set_option maxRecDepth 100000 in
set_option maxHeartbeats 8000000 in
theorem check_yes (c : CF) (fs : List FM) (ps : List (BR × List Int)) (w : World) (h : CFAt w c fs ps) (hroom : roomOK c) (hsch : schemaOK fs) (hspl : splitsOK (ps.map (·.2))) :
    Calls Tryz.prog 6 #[.agg c.cells] w fun e w' => e = .returned (.int .i64 (openV c.r)) ∧ Below w.heap.size w w' := by
  have hb := below_alloc1 w (.cells c.cells 36)
  have HX := Lib.hid (World.alloc_at w (.cells c.cells 36))
  have HB := Lib.hid hb
  have HC := Lib.hid (h.below hb)
  have R1 := Lib.hid hroom
  have R2 := Lib.hid hsch
  have R3 := Lib.hid hspl
  clear h hb hroom hsch hspl
  have eCF : c.cells = #[.int .i64 c.nodes, .int .i64 c.disk, .slice c.fA c.fn c.fc, .slice c.sA c.sn c.sc, .int .i64 c.r.id, .slice c.r.pA c.r.pn c.r.pc, .int .i64 c.r.le, .int .i64 c.r.mo, .int .i64 c.r.be, .int .i64 c.r.ba, .int .i64 c.r.blk, .int .i64 c.r.bits, .int .i64 c.r.mem, .int .i64 c.r.stall, .int .i64 c.r.wi, .int .i64 c.r.ra, .int .i64 c.r.pm, .int .i64 c.r.seg] := rfl
  rw [eCF]
  go_enter Tryz.func6, Tryz.ntmps6
  rw [← eCF]
  go_upto_region 1 with (fail)
  rw [← eCF]
  clear eCF
  obtain ⟨x, hx⟩ : ∃ x, x = w.heap.size := ⟨_, rfl⟩
  rw [← hx] at HX ⊢
  have HXX := Lib.hid hx
  clear hx
  generalize w.alloc (.cells c.cells 36) = W at HX HB HC ⊢
  obtain ⟨c0, c1, c2, c3, -⟩ := cf_at HX.out
  have l1 := block_lt HX.out
  go_cut [25] (fun v wx => wx = W ∧ v = .bool (!decide (roomOK c)))
  case first =>
    have q1 : ¬ c.nodes < 1 := by have := R1.out.1.1; omega
    have q2 : ¬ 7 < c.nodes := by have := R1.out.1.2; omega
    have q3 : ¬ c.disk < 0 := by have := R1.out.2.1; omega
    have q4 : ¬ 67108864 < c.disk := by have := R1.out.2.2; omega
    go_wp2_with (fail)
    go_meet
    exact ⟨rfl, congrArg Value.bool (by rw [← room_dec]; simp; omega)⟩
  case rest =>
  obtain ⟨rfl, rfl⟩ := hcut
  rw [dec_not R1.out]
  rw [HC.out.fn] at c2
  go_wp2_with (fail)
  refine (schema_cell c.fA c.fc fs wc HC.out.f HC.out.fl).mono ?_
  rintro e w2 ⟨rfl, hb2⟩
  have HX2 := Lib.hid ((hb2.block _ (block_lt HX.out)).trans HX.out)
  have HB2 := Lib.hid (HB.out.trans (hb2.mono HB.out.size))
  have HC2 := Lib.hid (HC.out.below hb2)
  clear c0 c1 c2 c3 l1 HX HB HC hb2
  rw [schemaV_t R2.out]
  obtain ⟨-, -, -, c3, -⟩ := cf_at HX2.out
  have l1 := block_lt HX2.out
  rw [HC2.out.sn] at c3
  have h7 : (ps.length : Int) ≤ 7 := by have := R3.out.len; rw [List.length_map] at this; omega
  go_wp2_with (fail)
  go_loopw [39] (fun i wr => ∃ k : Nat, i = .int .i64 k ∧ k ≤ ps.length ∧ wr = w2) (fun i _ => (ps.length - intOf i).toNat)
  case atStart => exact ⟨0, rfl, Nat.zero_le _, rfl⟩
  case round =>
    obtain ⟨k, rfl, hk, rfl⟩ := hrel
    by_cases hlt : k < ps.length
    · obtain ⟨p, hpk⟩ : ∃ p, ps[k]? = some p := ⟨_, List.getElem?_eq_getElem hlt⟩
      obtain ⟨ba, oa, hA, _, d0, hB1, hz1⟩ := HC2.out.s.at_ hpk
      have HB1 := Lib.hid hB1
      have HM := Lib.hid (show (ps.map (·.2))[k]? = some p.2 by rw [List.getElem?_map, hpk]; rfl)
      rw [hA] at c3 ⊢
      have HA := Lib.hid hA
      clear hB1 hA
      have HS := R3.out.size p.2 (List.mem_of_getElem? HM.out)
      have s1 : ¬ ((p.2.length : Int) < 1) := by omega
      have s2 : ¬ (256 < (p.2.length : Int)) := by omega
      clear HS
      rcases k with _ | k
      · clear hpk
        simp only [Nat.add_zero] at d0
        go_wp2_with (fail)
        exact ⟨⟨1, by simp, by omega, by simp⟩, by simp [intOf]; omega⟩
      · obtain ⟨q, hqk⟩ : ∃ q, ps[k]? = some q := ⟨_, List.getElem?_eq_getElem (by omega)⟩
        obtain ⟨bb, ob, e, _, e0, hB2, hz2⟩ := HC2.out.s.at_ hqk
        rw [HA.out] at e
        injection e with e
        injection e with e1 e2
        subst e1 e2
        have HM2 := Lib.hid (show (ps.map (·.2))[k]? = some q.2 by rw [List.getElem?_map, hqk]; rfl)
        have HCM := Lib.hid (compare_any p.1.A q.1.A p.2.length p.1.c q.2.length q.1.c p.2 q.2 wr HB1.out rfl hB2 rfl)
        have hc2 : ¬ (cmp3 p.2 q.2 ≤ 0) := by have := (cmp3_pos p.2 q.2).2 (R3.out.rise k _ _ HM2.out HM.out); omega
        clear hpk hqk hB2
        go_wp2_with (fail)
        refine HCM.out.mono ?_
        rintro e w1 ⟨rfl, hw1⟩
        obtain rfl := hw1.symm
        go_wp2_with (fail)
        exact ⟨⟨k + 2, by simp; omega, by omega, by simp⟩, by simp [intOf]; omega⟩
    · obtain rfl : k = ps.length := by omega
      clear c3 l1
      go_wp2_with (fail)
      refine (disk_new 67108864 wr (by decide)).mono ?_
      rintro e w3 ⟨bd, md, rfl, hd, hbd, hmd, hb3⟩
      have HX3 := Lib.hid ((hb3.block _ (block_lt HX2.out)).trans HX2.out)
      have HB3 := Lib.hid (HB2.out.trans (hb3.mono HB2.out.size))
      have HC3 := Lib.hid (HC2.out.below hb3)
      have HD3 := Lib.hid hd
      clear HX2 HB2 HC2 hb3 hd
      obtain ⟨c0, c1, c2, c3, c4, c5, c6, c7, c8, c9, c10, c11, c12, c13, c14, c15, c16, c17⟩ := cf_at HX3.out
      have l1 := block_lt HX3.out
      have l2 := block_lt HD3.out.blk
      go_wp2_with (fail)
      have hroom := R1.out
      obtain ⟨n, hn⟩ : ∃ n : Nat, c.nodes = n := ⟨c.nodes.toNat, by have := hroom.1.1; omega⟩
      have hn7 : n ≤ 7 := by have := hroom.1.2; omega
      have hn1 : 0 < n := by have := hroom.1.1; omega
      have HCFG : Hid (∀ W, Calls Tryz.prog 20 #[.agg c.cells, .int .i64 0] W fun e w' => ∃ A k, e = .returned (.agg (c.r.of 0 A n k).cells) ∧ Own encI 1 3 w' W.heap.size (.slice A n k) (ids n) ∧ Below W.heap.size W w') :=
        Lib.hid fun W => config_any c n 0 W hn hn7 (by decide)
      have HPRE : Hid (∀ W, Calls Tryz.prog 19 #[.int .i64 0] W fun e w' => e = .returned (.string (pre 0)) ∧ w' = W) := Lib.hid fun W => prefix_any 0 (by decide) W
      have HOP : Hid (∀ (W : World) (A : Option Addr) (k B : Nat), Own encI 1 3 W B (.slice A n k) (ids n) → Hid (Below w3.heap.size w3 W) → Calls Tryz.prog 18 #[.pointer (some ⟨bd, 0, none⟩), .string (pre 0), .agg #[.slice c.fA c.fn c.fc], .agg (c.r.of 0 A n k).cells, .int .i64 0] W
          fun e w' => (∃ A', e = .returned (.tuple #[.pointer A', .int .i64 (openV c.r)])) ∧ Below W.heap.size W w') :=
        Lib.hid fun W A k B ho hb => by
          rw [HC3.out.fn]
          have hrow := Own.row (c := k) (xs := ids n) len_I (show Own encI 1 3 W B (.slice A (ids n).length k) (ids n) by rw [ids_len]; exact ho)
          exact ropen_any bd md 67108864 (pre 0) c.fA c.fc fs (c.r.of 0 A n k) (ids n) 0 W (HD3.out.below hb.out) (pre_ok 0 (by decide)) ((HC3.out.f.below hb.out).more hb.out.size) R2.out hrow (ids_len n).symm (show PeersOK ((0 : Int) + 1) (ids n) by have := peers_ids hn7 hn1; simpa using this)
      have HTS : Hid (∀ W, Hid (Below w3.heap.size w3 W) → (W.cell? ⟨x, 0, none⟩ = some (.int .i64 c.nodes) ∧ W.cell? ⟨x, 1, none⟩ = some (.int .i64 c.disk) ∧ W.cell? ⟨x, 2, none⟩ = some (.slice c.fA c.fn c.fc) ∧ W.cell? ⟨x, 3, none⟩ = some (.slice c.sA c.sn c.sc) ∧ W.cell? ⟨x, 4, none⟩ = some (.int .i64 c.r.id) ∧ W.cell? ⟨x, 5, none⟩ = some (.slice c.r.pA c.r.pn c.r.pc) ∧ W.cell? ⟨x, 6, none⟩ = some (.int .i64 c.r.le) ∧ W.cell? ⟨x, 7, none⟩ = some (.int .i64 c.r.mo) ∧ W.cell? ⟨x, 8, none⟩ = some (.int .i64 c.r.be) ∧ W.cell? ⟨x, 9, none⟩ = some (.int .i64 c.r.ba) ∧ W.cell? ⟨x, 10, none⟩ = some (.int .i64 c.r.blk) ∧ W.cell? ⟨x, 11, none⟩ = some (.int .i64 c.r.bits) ∧ W.cell? ⟨x, 12, none⟩ = some (.int .i64 c.r.mem) ∧ W.cell? ⟨x, 13, none⟩ = some (.int .i64 c.r.stall) ∧ W.cell? ⟨x, 14, none⟩ = some (.int .i64 c.r.wi) ∧ W.cell? ⟨x, 15, none⟩ = some (.int .i64 c.r.ra) ∧ W.cell? ⟨x, 16, none⟩ = some (.int .i64 c.r.pm) ∧ W.cell? ⟨x, 17, none⟩ = some (.int .i64 c.r.seg)) ∧ Hid (Below w3.heap.size w3 W)) := Lib.hid fun W hW => ⟨cf_at ((hW.out.block _ l1).trans HX3.out), hW⟩
      have B0 := Lib.hid (Below.refl w3.heap.size w3)
      clear hroom hn hn7 hn1 hk
      clear c0 c1 c2 c3 c4 c5 c6 c7 c8 c9 c10 c11 c12 c13 c14 c15 c16 c17
      go_cut [7] (fun v wx => v = .int .i64 (openV c.r) ∧ Hid (Below w.heap.size w wx))
      case first =>
        go_region_held3 (fun W => (W.cell? ⟨x, 0, none⟩ = some (.int .i64 c.nodes) ∧ W.cell? ⟨x, 1, none⟩ = some (.int .i64 c.disk) ∧ W.cell? ⟨x, 2, none⟩ = some (.slice c.fA c.fn c.fc) ∧ W.cell? ⟨x, 3, none⟩ = some (.slice c.sA c.sn c.sc) ∧ W.cell? ⟨x, 4, none⟩ = some (.int .i64 c.r.id) ∧ W.cell? ⟨x, 5, none⟩ = some (.slice c.r.pA c.r.pn c.r.pc) ∧ W.cell? ⟨x, 6, none⟩ = some (.int .i64 c.r.le) ∧ W.cell? ⟨x, 7, none⟩ = some (.int .i64 c.r.mo) ∧ W.cell? ⟨x, 8, none⟩ = some (.int .i64 c.r.be) ∧ W.cell? ⟨x, 9, none⟩ = some (.int .i64 c.r.ba) ∧ W.cell? ⟨x, 10, none⟩ = some (.int .i64 c.r.blk) ∧ W.cell? ⟨x, 11, none⟩ = some (.int .i64 c.r.bits) ∧ W.cell? ⟨x, 12, none⟩ = some (.int .i64 c.r.mem) ∧ W.cell? ⟨x, 13, none⟩ = some (.int .i64 c.r.stall) ∧ W.cell? ⟨x, 14, none⟩ = some (.int .i64 c.r.wi) ∧ W.cell? ⟨x, 15, none⟩ = some (.int .i64 c.r.ra) ∧ W.cell? ⟨x, 16, none⟩ = some (.int .i64 c.r.pm) ∧ W.cell? ⟨x, 17, none⟩ = some (.int .i64 c.r.seg)) ∧ Hid (Below w3.heap.size w3 W))
          ((go_split_ands; first | (exact HTS.out _ (by assumption)) | (exact HTS.out _ (hb_drew (by assumption))) | (exact HTS.out _ (hb_trans' (by assumption) (by assumption)))))
          (first | (go_at_call 19; refine (HPRE.out _).mono ?_; rintro e w5 ⟨rfl, rfl⟩) | (go_at_call 20; refine (HCFG.out _).mono ?_; rintro e w5 ⟨A5, k5, rfl, hown5, hb5⟩) | (go_at_call 18; go_split_ands; refine (HOP.out _ _ _ _ (by assumption) (by assumption)).mono ?_; rintro e w6 ⟨⟨A6, rfl⟩, hb6⟩))
        all_goals go_wp2_with fail
        all_goals go_meet
        all_goals (go_split_ands; refine ⟨rfl, Lib.hid (HB3.out.trans (Below.mono (Hid.out (by assumption)) HB3.out.size))⟩)
      case rest =>
        obtain ⟨rfl, HBX⟩ := hcut
        go_wp2_with (fail)
        go_ret
        exact ⟨rfl, HBX.out⟩

theorem check_any (c : CF) (fs : List FM) (ps : List (BR × List Int)) (w : World) (h : CFAt w c fs ps) :
    Calls Tryz.prog 6 #[.agg c.cells] w fun e w' => e = .returned (.int .i64 (checkV c fs (ps.map (·.2)))) ∧ Below w.heap.size w w' := by
  by_cases hok : roomOK c ∧ schemaOK fs ∧ splitsOK (ps.map (·.2))
  · have hv : checkV c fs (ps.map (·.2)) = openV c.r := by unfold checkV; rw [if_pos hok.1, if_pos hok.2.1, if_pos hok.2.2]
    rw [hv]
    exact check_yes c fs ps w h hok.1 hok.2.1 hok.2.2
  · exact check_no c fs ps w h hok
end Go.Proofs.YtjoaldaldcpfeaaGreatDoor
