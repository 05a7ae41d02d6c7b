/-
  cluster.Check.
-/
import Derived.Test.YtjoaldaldcpfeaaGreatDoorE1
import Derived.Test.YtjoaldaldcpfeaaGreatDoorK1
import Derived.Test.YtjoaldaldcpfeaaGreatDoorK2
namespace Go.Proofs.YtjoaldaldcpfeaaGreatDoor
open Go.RowKit

theorem peers_ids {n node : Nat} (hn : n ≤ 7) (h : node < n) : PeersOK ((node : Int) + 1) (ids n) := by
  refine ⟨by rw [ids_len]; exact hn, ?_, ?_, ?_⟩
  · intro p hp
    obtain ⟨i, hi, rfl⟩ := List.mem_map.1 hp
    have := List.mem_range.1 hi
    omega
  · unfold ids
    rw [List.pairwise_map]
    exact List.pairwise_lt_range.imp (by intro a b h; omega)
  · exact List.mem_map.2 ⟨node, List.mem_range.2 h, rfl⟩
theorem room_dec (c : CF) : (decide (c.nodes < 1) || decide (7 < c.nodes) || decide (c.disk < 0) || decide (67108864 < c.disk)) = !decide (roomOK c) := by
  by_cases h : roomOK c
  · rw [dec_not h]; unfold roomOK at h; simp; omega
  · rw [dec_not' h]; unfold roomOK at h; simp; omega

set_option maxRecDepth 100000 in
set_option maxHeartbeats 8000000 in
theorem check_no (c : CF) (fs : List FM) (ps : List (BR × List Int)) (w : World) (h : CFAt w c fs ps) (hno : ¬ (roomOK c ∧ schemaOK fs ∧ splitsOK (ps.map (·.2)))) :
    Calls Tryz.prog 6 #[.agg c.cells] w fun e w' => e = .returned (.int .i64 (checkV c fs (ps.map (·.2)))) ∧ Below w.heap.size w w' := by
  have hb := below_alloc1 w (.cells c.cells 36)
  have HX := Lib.hid (World.alloc_at w (.cells c.cells 36))
  have HB := Lib.hid hb
  have HC := Lib.hid (h.below hb)
  have HNO := Lib.hid hno
  clear h hb hno
  have eCF : c.cells = #[.int .i64 c.nodes, .int .i64 c.disk, .slice c.fA c.fn c.fc, .slice c.sA c.sn c.sc, .int .i64 c.r.id, .slice c.r.pA c.r.pn c.r.pc, .int .i64 c.r.le, .int .i64 c.r.mo, .int .i64 c.r.be, .int .i64 c.r.ba, .int .i64 c.r.blk, .int .i64 c.r.bits, .int .i64 c.r.mem, .int .i64 c.r.stall, .int .i64 c.r.wi, .int .i64 c.r.ra, .int .i64 c.r.pm, .int .i64 c.r.seg] := rfl
  rw [eCF]
  go_enter Tryz.func6, Tryz.ntmps6
  rw [← eCF]
  go_upto_region 1 with (fail)
  rw [← eCF]
  clear eCF
  obtain ⟨x, hx⟩ : ∃ x, x = w.heap.size := ⟨_, rfl⟩
  rw [← hx] at HX ⊢
  have HXX := Lib.hid hx
  clear hx
  generalize w.alloc (.cells c.cells 36) = W at HX HB HC ⊢
  obtain ⟨c0, c1, c2, c3, -⟩ := cf_at HX.out
  have l1 := block_lt HX.out
  go_cut [25] (fun v wx => wx = W ∧ v = .bool (!decide (roomOK c)))
  case first =>
    by_cases q1 : c.nodes < 1
    · go_wp2_with (fail)
      go_meet
      exact ⟨rfl, congrArg Value.bool (by rw [← room_dec]; simp [q1])⟩
    · by_cases q2 : 7 < c.nodes
      · go_wp2_with (fail)
        go_meet
        exact ⟨rfl, congrArg Value.bool (by rw [← room_dec]; simp [q2])⟩
      · by_cases q3 : c.disk < 0
        · go_wp2_with (fail)
          go_meet
          exact ⟨rfl, congrArg Value.bool (by rw [← room_dec]; simp [q3])⟩
        · by_cases q4 : 67108864 < c.disk
          · go_wp2_with (fail)
            go_meet
            exact ⟨rfl, congrArg Value.bool (by rw [← room_dec]; simp [q4])⟩
          · go_wp2_with (fail)
            go_meet
            exact ⟨rfl, congrArg Value.bool (by rw [← room_dec]; simp; omega)⟩
  case rest =>
  obtain ⟨rfl, rfl⟩ := hcut
  by_cases hroom : roomOK c
  case neg =>
    rw [dec_not' hroom]
    have HQ := Lib.hid hroom
    clear hroom
    have hv : checkV c fs (ps.map (·.2)) = 190 := by unfold checkV; rw [if_neg HQ.out]
    have HV := Lib.hid hv
    clear hv
    go_wp2_with (fail)
    go_ret
    exact ⟨ret_int HV.out.symm, HB.out⟩
  case pos =>
  rw [dec_not hroom]
  have R1 := Lib.hid hroom
  clear hroom
  rw [HC.out.fn] at c2
  go_wp2_with (fail)
  refine (schema_cell c.fA c.fc fs wc HC.out.f HC.out.fl).mono ?_
  rintro e w2 ⟨rfl, hb2⟩
  have HX2 := Lib.hid ((hb2.block _ (block_lt HX.out)).trans HX.out)
  have HB2 := Lib.hid (HB.out.trans (hb2.mono HB.out.size))
  have HC2 := Lib.hid (HC.out.below hb2)
  clear c0 c1 c2 c3 l1 HX HB HC hb2
  by_cases hsch : schemaOK fs
  case neg =>
    rw [schemaV_f hsch]
    have HQ := Lib.hid hsch
    clear hsch
    have hv : checkV c fs (ps.map (·.2)) = 28 := by unfold checkV; rw [if_pos R1.out, if_neg HQ.out]
    have HV := Lib.hid hv
    clear hv
    go_wp2_with (fail)
    go_ret
    exact ⟨ret_int HV.out.symm, HB2.out⟩
  case pos =>
  rw [schemaV_t hsch]
  have R2 := Lib.hid hsch
  clear hsch
  obtain ⟨-, -, -, c3, -⟩ := cf_at HX2.out
  have l1 := block_lt HX2.out
  rw [HC2.out.sn] at c3
  by_cases h7 : (ps.length : Int) ≤ 7
  case neg =>
    have HQ := Lib.hid (show ¬ splitsOK (ps.map (·.2)) from fun h => h7 (by have := h.len; rw [List.length_map] at this; omega))
    have hv : checkV c fs (ps.map (·.2)) = 190 := by unfold checkV; rw [if_pos R1.out, if_pos R2.out, if_neg HQ.out]
    have HV := Lib.hid hv
    clear hv
    go_wp2_with (fail)
    go_ret
    exact ⟨ret_int HV.out.symm, HB2.out⟩
  case pos =>
  go_wp2_with (fail)
  go_loopw [39] (fun i wr => ∃ k : Nat, i = .int .i64 k ∧ k ≤ ps.length ∧ wr = w2 ∧ Hid (Upto (ps.map (·.2)) k)) (fun i _ => (ps.length - intOf i).toNat)
  case atStart => exact ⟨0, rfl, Nat.zero_le _, rfl, Lib.hid (Upto.zero _)⟩
  case round =>
    obtain ⟨k, rfl, hk, rfl, hU⟩ := hrel
    by_cases hlt : k < ps.length
    · obtain ⟨p, hpk⟩ : ∃ p, ps[k]? = some p := ⟨_, List.getElem?_eq_getElem hlt⟩
      obtain ⟨ba, oa, hA, _, d0, hB1, hz1⟩ := HC2.out.s.at_ hpk
      have HB1 := Lib.hid hB1
      have HM := Lib.hid (show (ps.map (·.2))[k]? = some p.2 by rw [List.getElem?_map, hpk]; rfl)
      rw [hA] at c3 ⊢
      have HA := Lib.hid hA
      clear hB1 hA
      by_cases s1 : (p.2.length : Int) < 1
      · have hv : checkV c fs (ps.map (·.2)) = 190 := by unfold checkV; rw [if_pos R1.out, if_pos R2.out, if_neg (fun h => by have := h.size p.2 (List.mem_of_getElem? HM.out); omega)]
        have HV := Lib.hid hv
        clear hv
        go_wp2_with (fail)
        go_ret
        exact ⟨ret_int HV.out.symm, HB2.out⟩
      · by_cases s2 : 256 < (p.2.length : Int)
        · have hv : checkV c fs (ps.map (·.2)) = 190 := by unfold checkV; rw [if_pos R1.out, if_pos R2.out, if_neg (fun h => by have := h.size p.2 (List.mem_of_getElem? HM.out); omega)]
          have HV := Lib.hid hv
          clear hv
          go_wp2_with (fail)
          go_ret
          exact ⟨ret_int HV.out.symm, HB2.out⟩
        · have HS := Lib.hid (show 1 ≤ p.2.length ∧ p.2.length ≤ 256 by omega)
          rcases k with _ | k
          · clear hpk
            simp only [Nat.add_zero] at d0
            go_wp2_with (fail)
            exact ⟨⟨1, by simp, by omega, by simp, Lib.hid (Upto.first HM.out HS.out)⟩, by simp [intOf]; omega⟩
          · obtain ⟨q, hqk⟩ : ∃ q, ps[k]? = some q := ⟨_, List.getElem?_eq_getElem (by omega)⟩
            obtain ⟨bb, ob, e, _, e0, hB2, hz2⟩ := HC2.out.s.at_ hqk
            rw [HA.out] at e
            injection e with e
            injection e with e1 e2
            subst e1 e2
            have HM2 := Lib.hid (show (ps.map (·.2))[k]? = some q.2 by rw [List.getElem?_map, hqk]; rfl)
            have HCM := Lib.hid (compare_any p.1.A q.1.A p.2.length p.1.c q.2.length q.1.c p.2 q.2 wr HB1.out rfl hB2 rfl)
            clear hpk hqk hB2
            by_cases hc : lt8 q.2 p.2
            · have HN := Lib.hid (Upto.next hU.out HM2.out HM.out HS.out hc)
              have hc2 : ¬ (cmp3 p.2 q.2 ≤ 0) := by have := (cmp3_pos p.2 q.2).2 hc; omega
              clear hc
              go_wp2_with (fail)
              refine HCM.out.mono ?_
              rintro e w1 ⟨rfl, hw1⟩
              obtain rfl := hw1.symm
              go_wp2_with (fail)
              exact ⟨⟨k + 2, by simp; omega, by omega, by simp, HN⟩, by simp [intOf]; omega⟩
            · have hv : checkV c fs (ps.map (·.2)) = 190 := by unfold checkV; rw [if_pos R1.out, if_pos R2.out, if_neg (fun h => hc (h.rise k _ _ HM2.out HM.out))]
              have HV := Lib.hid hv
              clear hv
              have hc2 : cmp3 p.2 q.2 ≤ 0 := by
                rcases Int.lt_or_le 0 (cmp3 p.2 q.2) with h | h
                · exact absurd ((cmp3_pos p.2 q.2).1 h) hc
                · exact h
              clear hc
              go_wp2_with (fail)
              refine HCM.out.mono ?_
              rintro e w1 ⟨rfl, hw1⟩
              obtain rfl := hw1.symm
              go_wp2_with (fail)
              go_ret
              exact ⟨ret_int HV.out.symm, HB2.out⟩
    · obtain rfl : k = ps.length := by omega
      have R3 := Lib.hid (show splitsOK (ps.map (·.2)) from Upto.done (by rw [List.length_map]; exact hU.out) (by rw [List.length_map]; omega))
      exact absurd ⟨R1.out, R2.out, R3.out⟩ HNO.out
end Go.Proofs.YtjoaldaldcpfeaaGreatDoor
