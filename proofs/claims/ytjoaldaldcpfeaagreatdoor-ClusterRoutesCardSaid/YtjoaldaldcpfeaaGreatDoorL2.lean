/-
  replica.begin on a fresh disk.
-/
import Derived.Test.YtjoaldaldcpfeaaGreatDoorL1
namespace Go.Proofs.YtjoaldaldcpfeaaGreatDoor
open Go.RowKit

set_option maxRecDepth 100000 in
set_option maxHeartbeats 4000000 in
theorem begin_none (r j t b : Nat) (p : ByteArray) (seg : Int) (arr : Array Value) (id : Int) (pA : Option Addr) (pc : Nat) (peers : List Int) (le mo be ba draw : Int) (x : Value) (w : World) (hR : w.heap[r]? = some (.cells arr 110 (0, 0)))
    (a2 : arr[2]? = some (.int .i64 id)) (a3 : arr[3]? = some (.slice pA peers.length pc)) (a4 : arr[4]? = some (.int .i64 le)) (a5 : arr[5]? = some (.int .i64 mo)) (a6 : arr[6]? = some (.int .i64 be)) (a7 : arr[7]? = some (.int .i64 ba))
    (a16 : arr[16]? = some x) (a17 : arr[17]? = some (.pointer (some ⟨j, 0, none⟩))) (a18 : arr[18]? = some (.pointer (some ⟨t, 0, none⟩)))
    (hJ : JAt w j b p seg) (hT : TAt w t) (hp : Row encI 1 w w.heap.size pA peers) (hok : PeersOK id peers) (hr : raftOK le mo be ba) :
    Calls Tryz.prog 42 #[.pointer (some ⟨r, 0, none⟩), .int .i64 draw] w fun e w' => e = .returned (.int .i64 0) ∧ Chg (· = r) w w' := by
  have HA : Hid (∀ W : World, W.heap[r]? = some (.cells arr 110 (0, 0)) → (W.cell? ⟨r, 2, none⟩ = some (.int .i64 id) ∧ W.cell? ⟨r, 3, none⟩ = some (.slice pA peers.length pc) ∧ W.cell? ⟨r, 4, none⟩ = some (.int .i64 le) ∧ W.cell? ⟨r, 5, none⟩ = some (.int .i64 mo) ∧ W.cell? ⟨r, 6, none⟩ = some (.int .i64 be) ∧ W.cell? ⟨r, 7, none⟩ = some (.int .i64 ba) ∧ W.cell? ⟨r, 17, none⟩ = some (.pointer (some ⟨j, 0, none⟩))) ∧ W.cell? ⟨r, 18, none⟩ = some (.pointer (some ⟨t, 0, none⟩)) ∧ r < W.heap.size ∧ W.cell? ⟨r, 16, none⟩ = some x ∧ (∀ o, W.frozen? ⟨r, o, none⟩ = false)) := Lib.hid fun W h =>
    ⟨⟨cell_block h 2 _ a2, cell_block h 3 _ a3, cell_block h 4 _ a4, cell_block h 5 _ a5, cell_block h 6 _ a6, cell_block h 7 _ a7, cell_block h 17 _ a17⟩, cell_block h 18 _ a18, block_lt h, cell_block h 16 _ a16, frozen_block h⟩
  have HR := Lib.hid hR
  have HJ := Lib.hid hJ
  have HT := Lib.hid hT
  have HP := Lib.hid hp
  have HK := Lib.hid hok
  have HRR := Lib.hid hr
  clear a2 a3 a4 a5 a6 a7 a16 a17 a18 hJ hT hp hok hr hR
  obtain ⟨⟨c2, c3, c4, c5, c6, c7, c17⟩, c18, hl, c16, hf⟩ := HA.out w HR.out
  go_enter Tryz.func42, Tryz.ntmps42
  go_wp2_with (fail)
  refine (base_none j b p seg w HJ.out).mono ?_
  rintro e w1 ⟨rfl, hb1⟩
  have R1 := Lib.hid ((hb1.block _ (block_lt HR.out)).trans HR.out)
  have J1 := Lib.hid (jat_below HJ.out hb1)
  have B1 := Lib.hid hb1
  clear c2 c3 c4 c5 c6 c7 c17 c18 hl c16 hf HJ hb1
  obtain ⟨⟨c2, c3, c4, c5, c6, c7, c17⟩, c18, hl, c16, hf⟩ := HA.out w1 R1.out
  go_wp2_with (fail)
  refine (last_none j b p seg w1 J1.out).mono ?_
  rintro e w2 ⟨rfl, hb2⟩
  have R2 := Lib.hid ((hb2.block _ (block_lt R1.out)).trans R1.out)
  have J2 := Lib.hid (jat_below J1.out hb2)
  have B2 := Lib.hid (B1.out.trans (hb2.mono B1.out.size))
  clear c2 c3 c4 c5 c6 c7 c17 c18 hl c16 hf R1 J1 B1 hb2
  have T2 := Lib.hid (HT.out.below B2.out)
  obtain ⟨⟨c2, c3, c4, c5, c6, c7, c17⟩, c18, hl, c16, hf⟩ := HA.out w2 R2.out
  go_wp2_with (fail)
  refine (flushed_none t w2 T2.out).mono ?_
  rintro e w3 ⟨rfl, hw3⟩
  obtain rfl : w2 = w3 := hw3.symm
  go_wp2_with (fail)
  refine (entries_none j b p seg w2 J2.out).mono ?_
  rintro e w4 ⟨rfl, hb4⟩
  have R4 := Lib.hid ((hb4.block _ (block_lt R2.out)).trans R2.out)
  have J4 := Lib.hid (jat_below J2.out hb4)
  have B4 := Lib.hid (B2.out.trans (hb4.mono B2.out.size))
  have P4 := Lib.hid ((HP.out.below B4.out).more B4.out.size)
  clear c2 c3 c4 c5 c6 c7 c17 c18 hl c16 hf R2 J2 B2 T2 hb4 HP HT
  obtain ⟨⟨c2, c3, c4, c5, c6, c7, c17⟩, c18, hl, c16, hf⟩ := HA.out w4 R4.out
  go_wp2_with (fail)
  clear c2 c3 c4 c5 c6 c7 c17 c18 c16 hf
  have HC : Hid (∀ W, Below w4.heap.size w4 W → W.cell? ⟨r, 2, none⟩ = some (.int .i64 id) ∧ W.cell? ⟨r, 3, none⟩ = some (.slice pA peers.length pc) ∧ W.cell? ⟨r, 4, none⟩ = some (.int .i64 le) ∧ W.cell? ⟨r, 5, none⟩ = some (.int .i64 mo) ∧ W.cell? ⟨r, 6, none⟩ = some (.int .i64 be) ∧ W.cell? ⟨r, 7, none⟩ = some (.int .i64 ba) ∧ W.cell? ⟨r, 17, none⟩ = some (.pointer (some ⟨j, 0, none⟩))) := Lib.hid (fun W hW => (HA.out W ((hW.block _ (block_lt R4.out)).trans R4.out)).1)
  go_cut [11] (fun u wx => u = .int .i64 0 ∧ Hid (Chg (· = r) w wx))
  case first =>
    refine wp_region_held_drew (S := (fun W => W.cell? ⟨r, 2, none⟩ = some (.int .i64 id) ∧ W.cell? ⟨r, 3, none⟩ = some (.slice pA peers.length pc) ∧ W.cell? ⟨r, 4, none⟩ = some (.int .i64 le) ∧ W.cell? ⟨r, 5, none⟩ = some (.int .i64 mo) ∧ W.cell? ⟨r, 6, none⟩ = some (.int .i64 be) ∧ W.cell? ⟨r, 7, none⟩ = some (.int .i64 ba) ∧ W.cell? ⟨r, 17, none⟩ = some (.pointer (some ⟨j, 0, none⟩)))) (by kernel_rfl) (HC.out _ (Below.refl _ _).drew) (fun hHeld => ?_)
    refine wpAnyH_take (i := 0) (v := (.pointer (some ⟨r, 0, none⟩))) rfl (by kernel_rfl) (by kernel_rfl) (by kernel_rfl) (fun _ _ _ h => h) (Or.inl ⟨by rfl, ?_⟩) (by assumption) ?_
    · intro w hSw; go_simp
    try simp only [Act.put, List.getElem_toArray, List.getElem_cons_zero]
    try simp only [List.setIfInBounds_toArray, List.set_cons_zero, List.set_cons_succ]
    refine wpAnyH_take (i := 1) (v := (.pointer (some ⟨r, 0, none⟩))) rfl (by kernel_rfl) (by kernel_rfl) (by kernel_rfl) (fun _ _ _ h => h) (Or.inl ⟨by rfl, ?_⟩) (by assumption) ?_
    · intro w hSw; go_simp
    try simp only [Act.put, List.getElem_toArray, List.getElem_cons_succ, List.getElem_cons_zero]
    try simp only [List.setIfInBounds_toArray, List.set_cons_zero, List.set_cons_succ]
    refine wpAnyH_take (i := 2) (v := (.pointer (some ⟨r, 0, none⟩))) rfl (by kernel_rfl) (by kernel_rfl) (by kernel_rfl) (fun _ _ _ h => h) (Or.inl ⟨by rfl, ?_⟩) (by assumption) ?_
    · intro w hSw; go_simp
    try simp only [Act.put, List.getElem_toArray, List.getElem_cons_succ, List.getElem_cons_zero]
    try simp only [List.setIfInBounds_toArray, List.set_cons_zero, List.set_cons_succ]
    refine wpAnyH_take (i := 3) (v := (.pointer (some ⟨r, 2, none⟩))) rfl (by kernel_rfl) (by kernel_rfl) (by kernel_rfl) (fun _ _ _ h => h) (Or.inl ⟨by rfl, ?_⟩) (by assumption) ?_
    · intro w hSw; go_simp
    try simp only [Act.put, List.getElem_toArray, List.getElem_cons_succ, List.getElem_cons_zero]
    try simp only [List.setIfInBounds_toArray, List.set_cons_zero, List.set_cons_succ]
    refine wpAnyH_take (i := 4) (v := (.pointer (some ⟨r, 2, none⟩))) rfl (by kernel_rfl) (by kernel_rfl) (by kernel_rfl) (fun _ _ _ h => h) (Or.inl ⟨by rfl, ?_⟩) (by assumption) ?_
    · intro w hSw; go_simp
    try simp only [Act.put, List.getElem_toArray, List.getElem_cons_succ, List.getElem_cons_zero]
    try simp only [List.setIfInBounds_toArray, List.set_cons_zero, List.set_cons_succ]
    refine wpAnyH_take (i := 5) (v := (.agg #[.int .i64 id, .slice pA peers.length pc, .int .i64 le, .int .i64 mo, .int .i64 be, .int .i64 ba])) rfl (by kernel_rfl) (by kernel_rfl) (by kernel_rfl) (fun _ _ _ h => h) (Or.inl ⟨by rfl, ?_⟩) (by assumption) ?_
    · intro w hSw; go_simp
    try simp only [Act.put, List.getElem_toArray, List.getElem_cons_succ, List.getElem_cons_zero]
    try simp only [List.setIfInBounds_toArray, List.set_cons_zero, List.set_cons_succ]
    refine wpAnyH_take (i := 6) (v := (.pointer (some ⟨r, 0, none⟩))) rfl (by kernel_rfl) (by kernel_rfl) (by kernel_rfl) (fun _ _ _ h => h) (Or.inl ⟨by rfl, ?_⟩) (by assumption) ?_
    · intro w hSw; go_simp
    try simp only [Act.put, List.getElem_toArray, List.getElem_cons_succ, List.getElem_cons_zero]
    try simp only [List.setIfInBounds_toArray, List.set_cons_zero, List.set_cons_succ]
    refine wpAnyH_take (i := 7) (v := (.pointer (some ⟨r, 0, none⟩))) rfl (by kernel_rfl) (by kernel_rfl) (by kernel_rfl) (fun _ _ _ h => h) (Or.inl ⟨by rfl, ?_⟩) (by assumption) ?_
    · intro w hSw; go_simp
    try simp only [Act.put, List.getElem_toArray, List.getElem_cons_succ, List.getElem_cons_zero]
    try simp only [List.setIfInBounds_toArray, List.set_cons_zero, List.set_cons_succ]
    refine wpAnyH_take (i := 8) (v := (.pointer (some ⟨r, 17, none⟩))) rfl (by kernel_rfl) (by kernel_rfl) (by kernel_rfl) (fun _ _ _ h => h) (Or.inl ⟨by rfl, ?_⟩) (by assumption) ?_
    · intro w hSw; go_simp
    try simp only [Act.put, List.getElem_toArray, List.getElem_cons_succ, List.getElem_cons_zero]
    try simp only [List.setIfInBounds_toArray, List.set_cons_zero, List.set_cons_succ]
    refine wpAnyH_take (i := 9) (v := (.pointer (some ⟨j, 0, none⟩))) rfl (by kernel_rfl) (by kernel_rfl) (by kernel_rfl) (fun _ _ _ h => h) (Or.inl ⟨by rfl, ?_⟩) (by assumption) ?_
    · intro w hSw; go_simp
    try simp only [Act.put, List.getElem_toArray, List.getElem_cons_succ, List.getElem_cons_zero]
    try simp only [List.setIfInBounds_toArray, List.set_cons_zero, List.set_cons_succ]
    refine wpAnyH_take (i := 11) (v := (.int .i64 0)) rfl (by kernel_rfl) (by kernel_rfl) (by kernel_rfl) (fun _ _ _ h => h) (Or.inl ⟨by rfl, ?_⟩) (by assumption) ?_
    · intro w hSw; go_simp
    try simp only [Act.put, List.getElem_toArray, List.getElem_cons_succ, List.getElem_cons_zero]
    try simp only [List.setIfInBounds_toArray, List.set_cons_zero, List.set_cons_succ]
    refine wpAnyH_take (i := 12) (v := (.int .i64 0)) rfl (by kernel_rfl) (by kernel_rfl) (by kernel_rfl) (fun _ _ _ h => h) (Or.inl ⟨by rfl, ?_⟩) (by assumption) ?_
    · intro w hSw; go_simp
    try simp only [Act.put, List.getElem_toArray, List.getElem_cons_succ, List.getElem_cons_zero]
    try simp only [List.setIfInBounds_toArray, List.set_cons_zero, List.set_cons_succ]
    refine wpAnyH_take (i := 13) (v := (.int .i64 0)) rfl (by kernel_rfl) (by kernel_rfl) (by kernel_rfl) (fun _ _ _ h => h) (Or.inl ⟨by rfl, ?_⟩) (by assumption) ?_
    · intro w hSw; go_simp
    try simp only [Act.put, List.getElem_toArray, List.getElem_cons_succ, List.getElem_cons_zero]
    try simp only [List.setIfInBounds_toArray, List.set_cons_zero, List.set_cons_succ]
    refine wpAnyH_take (i := 14) (v := (.slice none 0 0)) rfl (by kernel_rfl) (by kernel_rfl) (by kernel_rfl) (fun _ _ _ h => h) (Or.inl ⟨by rfl, ?_⟩) (by assumption) ?_
    · intro w hSw; go_simp
    try simp only [Act.put, List.getElem_toArray, List.getElem_cons_succ, List.getElem_cons_zero]
    try simp only [List.setIfInBounds_toArray, List.set_cons_zero, List.set_cons_succ]
    refine wpAnyH_take (i := 16) (v := (.int .i64 draw)) rfl (by kernel_rfl) (by kernel_rfl) (by kernel_rfl) (fun _ _ _ h => h) (Or.inl ⟨by rfl, ?_⟩) (by assumption) ?_
    · intro w hSw; go_simp
    try simp only [Act.put, List.getElem_toArray, List.getElem_cons_succ, List.getElem_cons_zero]
    try simp only [List.setIfInBounds_toArray, List.set_cons_zero, List.set_cons_succ]
    refine wpAnyH_ready (rs := [10]) (by kernel_rfl) (by simp) ?_
    refine AllReadyH.cons rfl (fun K hK => ?_) AllReadyH.nil
    go_simp
    refine (hard_none j b p seg _ (show JAt w4.drew j b p seg from J4.out)).mono ?_
    rintro e w5 ⟨rfl, hb5⟩
    have hb5c : Below w4.heap.size w4 w5 := ⟨hb5.os, hb5.tape, hb5.output, hb5.size, hb5.block⟩
    go_wp2_with fail
    refine hK.out _ _ ?_ (fun hHeld => ?_)
    · exact HC.out _ hb5c
    clear hK K
    try simp only [Act.put, List.getElem_toArray, List.getElem_cons_succ, List.getElem_cons_zero]
    try simp only [Act.put, List.setIfInBounds_toArray, List.set_cons_zero, List.set_cons_succ]
    refine wpAnyH_take (i := 15) (v := (.agg #[.int .i64 0, .int .i64 0, .int .i64 0, .int .i64 0, .int .i64 0, .slice none 0 0])) rfl (by kernel_rfl) (by kernel_rfl) (by kernel_rfl) (fun _ _ _ h => h) (Or.inl ⟨by rfl, ?_⟩) (by assumption) ?_
    · intro w hSw; go_simp
    try simp only [Act.put, List.getElem_toArray, List.getElem_cons_succ, List.getElem_cons_zero]
    try simp only [List.setIfInBounds_toArray, List.set_cons_zero, List.set_cons_succ]
    refine wpAnyH_ready (rs := [17]) (by kernel_rfl) (by simp) ?_
    refine AllReadyH.cons rfl (fun K hK => ?_) AllReadyH.nil
    go_simp
    refine (new_yes id pA _ pc peers le mo be ba draw _ ((P4.out.below hb5c).more hb5c.size) rfl HK.out HRR.out).mono ?_
    rintro e w6 ⟨g, rfl, hb6⟩
    have hb6c : Below w4.heap.size w4 w6 := hb5c.trans (hb6.mono hb5c.size)
    go_wp2_with fail
    refine hK.out _ _ ?_ (fun hHeld => ?_)
    · exact HC.out _ hb6c
    clear hK K
    try simp only [Act.put, List.getElem_toArray, List.getElem_cons_succ, List.getElem_cons_zero]
    try simp only [Act.put, List.setIfInBounds_toArray, List.set_cons_zero, List.set_cons_succ]
    refine wpAnyH_take (i := 18) (v := (.tuple #[.pointer (some ⟨g, 0, none⟩), .int .i64 0])) rfl (by kernel_rfl) (by kernel_rfl) (by kernel_rfl) (fun _ _ _ h => h) (Or.inl ⟨by rfl, ?_⟩) (by assumption) ?_
    · intro w hSw; go_simp
    try simp only [Act.put, List.getElem_toArray, List.getElem_cons_succ, List.getElem_cons_zero]
    try simp only [List.setIfInBounds_toArray, List.set_cons_zero, List.set_cons_succ]
    refine wpAnyH_take (i := 19) (v := (.pointer (some ⟨g, 0, none⟩))) rfl (by kernel_rfl) (by kernel_rfl) (by kernel_rfl) (fun _ _ _ h => h) (Or.inl ⟨by rfl, ?_⟩) (by assumption) ?_
    · intro w hSw; go_simp
    try simp only [Act.put, List.getElem_toArray, List.getElem_cons_succ, List.getElem_cons_zero]
    try simp only [List.setIfInBounds_toArray, List.set_cons_zero, List.set_cons_succ]
    refine wpAnyH_take (i := 20) (v := (.int .i64 0)) rfl (by kernel_rfl) (by kernel_rfl) (by kernel_rfl) (fun _ _ _ h => h) (Or.inl ⟨by rfl, ?_⟩) (by assumption) ?_
    · intro w hSw; go_simp
    try simp only [Act.put, List.getElem_toArray, List.getElem_cons_succ, List.getElem_cons_zero]
    try simp only [List.setIfInBounds_toArray, List.set_cons_zero, List.set_cons_succ]
    refine wpAnyH_take (i := 21) (v := (.pointer (some ⟨r, 0, none⟩))) rfl (by kernel_rfl) (by kernel_rfl) (by kernel_rfl) (fun _ _ _ h => h) (Or.inl ⟨by rfl, ?_⟩) (by assumption) ?_
    · intro w hSw; go_simp
    try simp only [Act.put, List.getElem_toArray, List.getElem_cons_succ, List.getElem_cons_zero]
    try simp only [List.setIfInBounds_toArray, List.set_cons_zero, List.set_cons_succ]
    refine wpAnyH_take (i := 22) (v := (.pointer (some ⟨r, 16, none⟩))) rfl (by kernel_rfl) (by kernel_rfl) (by kernel_rfl) (fun _ _ _ h => h) (Or.inl ⟨by rfl, ?_⟩) (by assumption) ?_
    · intro w hSw; go_simp
    try simp only [Act.put, List.getElem_toArray, List.getElem_cons_succ, List.getElem_cons_zero]
    try simp only [List.setIfInBounds_toArray, List.set_cons_zero, List.set_cons_succ]
    have R6 := Lib.hid ((hb6c.block _ (block_lt R4.out)).trans R4.out)
    obtain ⟨⟨d2, d3, d4, d5, d6, d7, d17⟩, _, hl6, c16, hf⟩ := HA.out w6 R6.out
    refine wpAnyH_ready (rs := [23]) (by kernel_rfl) (by simp) ?_
    refine AllReadyH.cons rfl (fun K hK => ?_) AllReadyH.nil
    go_simp
    refine hK.out _ _ ?_ (fun hHeld => ?_)
    · exact ⟨(World.cell?_setCell_other _ _ _ _ (by simp)).trans d2, (World.cell?_setCell_other _ _ _ _ (by simp)).trans d3, (World.cell?_setCell_other _ _ _ _ (by simp)).trans d4, (World.cell?_setCell_other _ _ _ _ (by simp)).trans d5, (World.cell?_setCell_other _ _ _ _ (by simp)).trans d6, (World.cell?_setCell_other _ _ _ _ (by simp)).trans d7, (World.cell?_setCell_other _ _ _ _ (by simp)).trans d17⟩
    clear hK K
    try simp only [Act.put, List.getElem_toArray, List.getElem_cons_succ, List.getElem_cons_zero]
    try simp only [Act.put, List.setIfInBounds_toArray, List.set_cons_zero, List.set_cons_succ]
    refine wpAnyH_take (i := 24) (v := (.int .i64 0)) rfl (by kernel_rfl) (by kernel_rfl) (by kernel_rfl) (fun _ _ _ h => h) (Or.inl ⟨by rfl, ?_⟩) (by assumption) ?_
    · intro w hSw; go_simp
    try simp only [Act.put, List.getElem_toArray, List.getElem_cons_succ, List.getElem_cons_zero]
    try simp only [List.setIfInBounds_toArray, List.set_cons_zero, List.set_cons_succ]
    refine wpAnyH_done (by kernel_rfl) ?_ _
    try simp only [Act.put, List.getElem_toArray, List.getElem_cons_succ, List.getElem_cons_zero]
    try simp only [Act.put, List.setIfInBounds_toArray, List.set_cons_zero, List.set_cons_succ]
    go_wp2_with fail
    go_meet
    exact ⟨rfl, Lib.hid (Chg.setCell (F := (· = r)) (Chg.ofBelow (B4.out.trans (hb6c.mono B4.out.size))) (.inl rfl) _)⟩
  case rest =>
    obtain ⟨rfl, hR⟩ := hcut
    go_wp2_with (fail)
    go_ret
    exact ⟨rfl, hR.out⟩
end Go.Proofs.YtjoaldaldcpfeaaGreatDoor
