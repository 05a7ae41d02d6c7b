/-
  World.begin of a node alone.
-/
import Derived.Test.YtocogcgnahbpkaaGreatW6
namespace Go.Proofs.YtocogcgnahbpkaaGreat
open Go.RowKit

theorem cell_heap7 {w w' : World} {b : Nat} (h : w'.heap[b]? = w.heap[b]?) (o : Nat) : w'.cell? ⟨b, o, none⟩ = w.cell? ⟨b, o, none⟩ := by simp only [World.cell?, h]

theorem store6 {w : World} {y : Nat} {c0 c1 c2 c3 c4 c5 : Value} {t : TypeId} (h : w.heap[y]? = some (.cells #[c0, c1, c2, c3, c4, c5] t (0, 0))) (v0 v1 v2 v3 v4 v5 : Value) :
    (((((((w.setCell ⟨y, 0, none⟩ v0).setCell ⟨y, 1, none⟩ v1).setCell ⟨y, 2, none⟩ v2).setCell ⟨y, 3, none⟩ v3).setCell ⟨y, 4, none⟩ v4).setCell ⟨y, 5, none⟩ v5)).heap[y]? = some (.cells #[v0, v1, v2, v3, v4, v5] t (0, 0)) ∧ (∀ i, i ≠ y → (((((((w.setCell ⟨y, 0, none⟩ v0).setCell ⟨y, 1, none⟩ v1).setCell ⟨y, 2, none⟩ v2).setCell ⟨y, 3, none⟩ v3).setCell ⟨y, 4, none⟩ v4).setCell ⟨y, 5, none⟩ v5)).heap[i]? = w.heap[i]?) ∧ (((((((w.setCell ⟨y, 0, none⟩ v0).setCell ⟨y, 1, none⟩ v1).setCell ⟨y, 2, none⟩ v2).setCell ⟨y, 3, none⟩ v3).setCell ⟨y, 4, none⟩ v4).setCell ⟨y, 5, none⟩ v5)).heap.size = w.heap.size ∧ (∀ (B : Nat) (w0 : World), B ≤ y → Below B w0 w → Below B w0 (((((((w.setCell ⟨y, 0, none⟩ v0).setCell ⟨y, 1, none⟩ v1).setCell ⟨y, 2, none⟩ v2).setCell ⟨y, 3, none⟩ v3).setCell ⟨y, 4, none⟩ v4).setCell ⟨y, 5, none⟩ v5))) := by
  refine ⟨?_, fun i hi => ?_, ?_, fun B w0 hB hb => ?_⟩
  · have e := (block_setCell (o := 5) (block_setCell (o := 4) (block_setCell (o := 3) (block_setCell (o := 2) (block_setCell (o := 1) (block_setCell (o := 0) h v0) v1) v2) v3) v4) v5)
    rw [e]; simp
  · rw [Below.heap_setCell _ _ _ _ hi, Below.heap_setCell _ _ _ _ hi, Below.heap_setCell _ _ _ _ hi, Below.heap_setCell _ _ _ _ hi, Below.heap_setCell _ _ _ _ hi, Below.heap_setCell _ _ _ _ hi]
  · simp only [World.setCell, Array.size_modify]
  · exact ((((((hb.setCell (p := ⟨y, 0, none⟩) hB _).setCell (p := ⟨y, 1, none⟩) hB _).setCell (p := ⟨y, 2, none⟩) hB _).setCell (p := ⟨y, 3, none⟩) hB _).setCell (p := ⟨y, 4, none⟩) hB _).setCell (p := ⟨y, 5, none⟩) hB _)

theorem num_zero (w : World) : Calls Tryz.prog 33 #[.int .i64 0] w fun e w' => e = .returned (.int .i64 0) ∧ w' = w := by
  go_enter Tryz.func33, Tryz.ntmps33
  go_wp2
  go_ret
  exact ⟨rfl, rfl⟩

set_option maxRecDepth 100000 in
set_option maxHeartbeats 4000000 in
theorem begin_world (bw b1 : Nat) (S : Nat → Prop) (pA dA : Option Addr) (pc dn dc : Nat) (L Mo Bt t v cm0 most ro0 le0 commit draw : Int) (a6 a7 a8 a9 a10 a11 a12 a13 sp : Value) (dl : List (LE × List Int)) (w : World)
    (hw : w.heap[bw]? = some (.cells #[.int .i64 0, .slice pA 1 pc, .int .i64 L, .int .i64 Mo, .int .i64 Bt, .int .i64 5, a6, a7, a8, a9, a10, a11, a12, a13] 43 (0, 0))) (hs : w.heap[b1]? = some (.cells #[.int .i64 1, sp, .pointer none, .int .i64 t, .int .i64 v, .int .i64 0, .int .i64 0, .slice dA dn dc, .int .i64 cm0, .int .i64 most, .int .i64 ro0, .int .i64 le0] 52 (0, 0))) (hS : ∀ i, S i → i < w.heap.size ∧ i ≠ b1)
    (hp : RowS encI 1 w S pA [1]) (hd : EntsS w S dA dl) (hdn : dn = dl.length) (hst : StOK [1] t v 0 0 commit (dl.map con)) (hcfg : CfgOK 1 [1] L Mo Bt 5) :
    Calls Tryz.prog 23 #[.pointer (some ⟨bw, 0, none⟩), .pointer (some ⟨b1, 0, none⟩), .int .i64 commit, .int .i64 draw, .bool false] w fun e w' => e = .returned (.bool true) ∧ ∃ F bn c, NdAt w' F (fun _ => False) bn (NS.new 1 L Mo Bt 5 t v 0 0 commit draw) c ∧
      w'.heap[b1]? = some (.cells #[.int .i64 1, .pointer (some ⟨bn, 0, none⟩), .pointer none, .int .i64 t, .int .i64 v, .int .i64 0, .int .i64 0, .slice dA dn dc, .int .i64 commit, .int .i64 most, .int .i64 1, .int .i64 0] 52 (0, 0)) ∧
      Chg (· = b1) w w' ∧ (∀ i, F i → w.heap.size ≤ i) ∧ c.peers = [1] ∧ c.log.map con = dl.map con ∧ c = NC.new c.pA c.pn c.pc c.peers c.lA c.ln c.lc c.log := by
  have HW := Lib.hid hw
  have HS := Lib.hid hs
  have HP := Lib.hid hp
  have HD := Lib.hid hd
  have HST := Lib.hid hst
  have HCF := Lib.hid hcfg
  have HDN := Lib.hid hdn
  have HSS := Lib.hid hS
  have hlw := block_lt hw
  have hlb := block_lt hs
  obtain ⟨u0, u1, u2, u3, u4, u5⟩ : w.cell? ⟨bw, 0, none⟩ = some (.int .i64 0) ∧ w.cell? ⟨bw, 1, none⟩ = some (.slice pA 1 pc) ∧ w.cell? ⟨bw, 2, none⟩ = some (.int .i64 L) ∧ w.cell? ⟨bw, 3, none⟩ = some (.int .i64 Mo) ∧ w.cell? ⟨bw, 4, none⟩ = some (.int .i64 Bt) ∧ w.cell? ⟨bw, 5, none⟩ = some (.int .i64 5) :=
    ⟨cell_block hw 0 _ rfl, cell_block hw 1 _ rfl, cell_block hw 2 _ rfl, cell_block hw 3 _ rfl, cell_block hw 4 _ rfl, cell_block hw 5 _ rfl⟩
  have s0 : w.cell? ⟨b1, 0, none⟩ = some (.int .i64 1) := cell_block hs 0 _ rfl
  clear hw hs hp hd hst hcfg hdn hS
  go_enter Tryz.func23, Tryz.ntmps23
  go_upto_region 3 with (fail)
  have hb1 := below_alloc1 w (.cells #[.int .i64 1, .slice pA 1 pc, .int .i64 L, .int .i64 Mo, .int .i64 Bt, .int .i64 5] 27)
  have hx1 := World.alloc_at w (.cells #[.int .i64 1, .slice pA 1 pc, .int .i64 L, .int .i64 Mo, .int .i64 Bt, .int .i64 5] 27)
  have hz1 := World.alloc_size w (.cells #[.int .i64 1, .slice pA 1 pc, .int .i64 L, .int .i64 Mo, .int .i64 Bt, .int .i64 5] 27)
  obtain ⟨x, hx⟩ : ∃ x, x = w.heap.size := ⟨_, rfl⟩
  rw [← hx] at hx1 hz1
  rw [← hx]
  have HX := Lib.hid hx
  clear hx
  generalize w.alloc (.cells #[.int .i64 1, .slice pA 1 pc, .int .i64 L, .int .i64 Mo, .int .i64 Bt, .int .i64 5] 27) = W1 at hb1 hx1 hz1 ⊢
  have HB1 := Lib.hid hb1
  have HX1 := Lib.hid hx1
  have HZ1 := Lib.hid hz1
  have HS1 := Lib.hid ((hb1.block b1 hlb).trans HS.out)
  clear u0 u1 u2 u3 u4 u5 s0 hlw hlb hb1 hx1 hz1
  have HL : Hid (∀ W, Below W1.heap.size W1 W → Calls Tryz.prog 46 #[.slice dA dn dc] W fun e w' => ∃ v qs, e = .returned v ∧ OEnts w' W.heap.size v qs ∧ qs.map con = dl.map con ∧ Below W.heap.size W w') := Lib.hid (fun W hW => by
    have hb : Below w.heap.size w W := HB1.out.trans (hW.mono HB1.out.size)
    exact copyLog_any _ _ _ _ W ((HD.out.keep (fun i hi => hb.block i (HSS.out i hi).1)).ents (fun i hi => Nat.lt_of_lt_of_le (HSS.out i hi).1 hb.size)) HDN.out (by have := HST.out.len; simp at this; omega))
  have HC : Hid (∀ W, Below W1.heap.size W1 W → W.cell? ⟨b1, 3, none⟩ = some (.int .i64 t) ∧ W.cell? ⟨b1, 4, none⟩ = some (.int .i64 v) ∧ W.cell? ⟨b1, 5, none⟩ = some (.int .i64 0) ∧ W.cell? ⟨b1, 6, none⟩ = some (.int .i64 0) ∧ W.cell? ⟨b1, 7, none⟩ = some (.slice dA dn dc)) := Lib.hid (fun W hW => by
    have h := (hW.block b1 (block_lt HS1.out)).trans HS1.out
    exact ⟨cell_block h 3 _ rfl, cell_block h 4 _ rfl, cell_block h 5 _ rfl, cell_block h 6 _ rfl, cell_block h 7 _ rfl⟩)
  have hlb : b1 < W1.heap.size := block_lt HS1.out
  go_cut [12] (fun u wx => ∃ y, u = .pointer (some ⟨y, 0, none⟩) ∧ Hid (∃ A1 k1 qs, wx.heap[y]? = some (.cells #[.int .i64 t, .int .i64 v, .int .i64 0, .int .i64 0, .int .i64 commit, .slice A1 qs.length k1] 90 (0, 0)) ∧ Below W1.heap.size W1 wx ∧ (∃ S', EntsS wx S' A1 qs ∧ ∀ i, S' i → i < wx.heap.size ∧ i ≠ b1) ∧ qs.map con = dl.map con ∧ W1.heap.size ≤ y))
  case first =>
    refine wp_region_held_drew (S := (fun W => W.cell? ⟨b1, 3, none⟩ = some (.int .i64 t) ∧ W.cell? ⟨b1, 4, none⟩ = some (.int .i64 v) ∧ W.cell? ⟨b1, 5, none⟩ = some (.int .i64 0) ∧ W.cell? ⟨b1, 6, none⟩ = some (.int .i64 0) ∧ W.cell? ⟨b1, 7, none⟩ = some (.slice dA dn dc))) (by kernel_rfl) (HC.out _ (Below.refl _ _).drew) (fun hHeld => ?_)
    refine wpAnyH_take (i := 0) (v := .pointer (some ⟨b1, 0, none⟩)) rfl (by kernel_rfl) (by kernel_rfl) (by kernel_rfl) (fun _ _ _ h => h) (Or.inl ⟨by rfl, ?_⟩) (by assumption) ?_
    · intro w hSw; go_simp
    try simp only [Act.put, List.getElem_toArray, List.getElem_cons_zero]
    try simp only [List.setIfInBounds_toArray, List.set_cons_zero, List.set_cons_succ]
    refine wpAnyH_take (i := 1) (v := .pointer (some ⟨b1, 0, none⟩)) rfl (by kernel_rfl) (by kernel_rfl) (by kernel_rfl) (fun _ _ _ h => h) (Or.inl ⟨by rfl, ?_⟩) (by assumption) ?_
    · intro w hSw; go_simp
    try simp only [Act.put, List.getElem_toArray, List.getElem_cons_succ, List.getElem_cons_zero]
    try simp only [List.setIfInBounds_toArray, List.set_cons_zero, List.set_cons_succ]
    refine wpAnyH_take (i := 2) (v := .pointer (some ⟨b1, 3, none⟩)) rfl (by kernel_rfl) (by kernel_rfl) (by kernel_rfl) (fun _ _ _ h => h) (Or.inl ⟨by rfl, ?_⟩) (by assumption) ?_
    · intro w hSw; go_simp
    try simp only [Act.put, List.getElem_toArray, List.getElem_cons_succ, List.getElem_cons_zero]
    try simp only [List.setIfInBounds_toArray, List.set_cons_zero, List.set_cons_succ]
    refine wpAnyH_take (i := 3) (v := .pointer (some ⟨b1, 3, none⟩)) rfl (by kernel_rfl) (by kernel_rfl) (by kernel_rfl) (fun _ _ _ h => h) (Or.inl ⟨by rfl, ?_⟩) (by assumption) ?_
    · intro w hSw; go_simp
    try simp only [Act.put, List.getElem_toArray, List.getElem_cons_succ, List.getElem_cons_zero]
    try simp only [List.setIfInBounds_toArray, List.set_cons_zero, List.set_cons_succ]
    refine wpAnyH_take (i := 4) (v := .agg #[.int .i64 t, .int .i64 v]) rfl (by kernel_rfl) (by kernel_rfl) (by kernel_rfl) (fun _ _ _ h => h) (Or.inl ⟨by rfl, ?_⟩) (by assumption) ?_
    · intro w hSw; go_simp
    try simp only [Act.put, List.getElem_toArray, List.getElem_cons_succ, List.getElem_cons_zero]
    try simp only [List.setIfInBounds_toArray, List.set_cons_zero, List.set_cons_succ]
    refine wpAnyH_take (i := 5) (v := .pointer (some ⟨b1, 0, none⟩)) rfl (by kernel_rfl) (by kernel_rfl) (by kernel_rfl) (fun _ _ _ h => h) (Or.inl ⟨by rfl, ?_⟩) (by assumption) ?_
    · intro w hSw; go_simp
    try simp only [Act.put, List.getElem_toArray, List.getElem_cons_succ, List.getElem_cons_zero]
    try simp only [List.setIfInBounds_toArray, List.set_cons_zero, List.set_cons_succ]
    refine wpAnyH_take (i := 6) (v := .pointer (some ⟨b1, 0, none⟩)) rfl (by kernel_rfl) (by kernel_rfl) (by kernel_rfl) (fun _ _ _ h => h) (Or.inl ⟨by rfl, ?_⟩) (by assumption) ?_
    · intro w hSw; go_simp
    try simp only [Act.put, List.getElem_toArray, List.getElem_cons_succ, List.getElem_cons_zero]
    try simp only [List.setIfInBounds_toArray, List.set_cons_zero, List.set_cons_succ]
    refine wpAnyH_take (i := 7) (v := .pointer (some ⟨b1, 3, none⟩)) rfl (by kernel_rfl) (by kernel_rfl) (by kernel_rfl) (fun _ _ _ h => h) (Or.inl ⟨by rfl, ?_⟩) (by assumption) ?_
    · intro w hSw; go_simp
    try simp only [Act.put, List.getElem_toArray, List.getElem_cons_succ, List.getElem_cons_zero]
    try simp only [List.setIfInBounds_toArray, List.set_cons_zero, List.set_cons_succ]
    refine wpAnyH_take (i := 8) (v := .pointer (some ⟨b1, 5, none⟩)) rfl (by kernel_rfl) (by kernel_rfl) (by kernel_rfl) (fun _ _ _ h => h) (Or.inl ⟨by rfl, ?_⟩) (by assumption) ?_
    · intro w hSw; go_simp
    try simp only [Act.put, List.getElem_toArray, List.getElem_cons_succ, List.getElem_cons_zero]
    try simp only [List.setIfInBounds_toArray, List.set_cons_zero, List.set_cons_succ]
    refine wpAnyH_take (i := 9) (v := .int .i64 0) rfl (by kernel_rfl) (by kernel_rfl) (by kernel_rfl) (fun _ _ _ h => h) (Or.inl ⟨by rfl, ?_⟩) (by assumption) ?_
    · intro w hSw; go_simp
    try simp only [Act.put, List.getElem_toArray, List.getElem_cons_succ, List.getElem_cons_zero]
    try simp only [List.setIfInBounds_toArray, List.set_cons_zero, List.set_cons_succ]
    refine wpAnyH_take (i := 10) (v := .pointer (some ⟨b1, 0, none⟩)) rfl (by kernel_rfl) (by kernel_rfl) (by kernel_rfl) (fun _ _ _ h => h) (Or.inl ⟨by rfl, ?_⟩) (by assumption) ?_
    · intro w hSw; go_simp
    try simp only [Act.put, List.getElem_toArray, List.getElem_cons_succ, List.getElem_cons_zero]
    try simp only [List.setIfInBounds_toArray, List.set_cons_zero, List.set_cons_succ]
    refine wpAnyH_take (i := 11) (v := .pointer (some ⟨b1, 0, none⟩)) rfl (by kernel_rfl) (by kernel_rfl) (by kernel_rfl) (fun _ _ _ h => h) (Or.inl ⟨by rfl, ?_⟩) (by assumption) ?_
    · intro w hSw; go_simp
    try simp only [Act.put, List.getElem_toArray, List.getElem_cons_succ, List.getElem_cons_zero]
    try simp only [List.setIfInBounds_toArray, List.set_cons_zero, List.set_cons_succ]
    refine wpAnyH_take (i := 12) (v := .pointer (some ⟨b1, 3, none⟩)) rfl (by kernel_rfl) (by kernel_rfl) (by kernel_rfl) (fun _ _ _ h => h) (Or.inl ⟨by rfl, ?_⟩) (by assumption) ?_
    · intro w hSw; go_simp
    try simp only [Act.put, List.getElem_toArray, List.getElem_cons_succ, List.getElem_cons_zero]
    try simp only [List.setIfInBounds_toArray, List.set_cons_zero, List.set_cons_succ]
    refine wpAnyH_take (i := 13) (v := .pointer (some ⟨b1, 6, none⟩)) rfl (by kernel_rfl) (by kernel_rfl) (by kernel_rfl) (fun _ _ _ h => h) (Or.inl ⟨by rfl, ?_⟩) (by assumption) ?_
    · intro w hSw; go_simp
    try simp only [Act.put, List.getElem_toArray, List.getElem_cons_succ, List.getElem_cons_zero]
    try simp only [List.setIfInBounds_toArray, List.set_cons_zero, List.set_cons_succ]
    refine wpAnyH_take (i := 14) (v := .int .i64 0) rfl (by kernel_rfl) (by kernel_rfl) (by kernel_rfl) (fun _ _ _ h => h) (Or.inl ⟨by rfl, ?_⟩) (by assumption) ?_
    · intro w hSw; go_simp
    try simp only [Act.put, List.getElem_toArray, List.getElem_cons_succ, List.getElem_cons_zero]
    try simp only [List.setIfInBounds_toArray, List.set_cons_zero, List.set_cons_succ]
    refine wpAnyH_take (i := 15) (v := .int .i64 commit) rfl (by kernel_rfl) (by kernel_rfl) (by kernel_rfl) (fun _ _ _ h => h) (Or.inl ⟨by rfl, ?_⟩) (by assumption) ?_
    · intro w hSw; go_simp
    try simp only [Act.put, List.getElem_toArray, List.getElem_cons_succ, List.getElem_cons_zero]
    try simp only [List.setIfInBounds_toArray, List.set_cons_zero, List.set_cons_succ]
    refine wpAnyH_take (i := 16) (v := .pointer (some ⟨b1, 0, none⟩)) rfl (by kernel_rfl) (by kernel_rfl) (by kernel_rfl) (fun _ _ _ h => h) (Or.inl ⟨by rfl, ?_⟩) (by assumption) ?_
    · intro w hSw; go_simp
    try simp only [Act.put, List.getElem_toArray, List.getElem_cons_succ, List.getElem_cons_zero]
    try simp only [List.setIfInBounds_toArray, List.set_cons_zero, List.set_cons_succ]
    refine wpAnyH_take (i := 17) (v := .pointer (some ⟨b1, 0, none⟩)) rfl (by kernel_rfl) (by kernel_rfl) (by kernel_rfl) (fun _ _ _ h => h) (Or.inl ⟨by rfl, ?_⟩) (by assumption) ?_
    · intro w hSw; go_simp
    try simp only [Act.put, List.getElem_toArray, List.getElem_cons_succ, List.getElem_cons_zero]
    try simp only [List.setIfInBounds_toArray, List.set_cons_zero, List.set_cons_succ]
    refine wpAnyH_take (i := 18) (v := .pointer (some ⟨b1, 3, none⟩)) rfl (by kernel_rfl) (by kernel_rfl) (by kernel_rfl) (fun _ _ _ h => h) (Or.inl ⟨by rfl, ?_⟩) (by assumption) ?_
    · intro w hSw; go_simp
    try simp only [Act.put, List.getElem_toArray, List.getElem_cons_succ, List.getElem_cons_zero]
    try simp only [List.setIfInBounds_toArray, List.set_cons_zero, List.set_cons_succ]
    refine wpAnyH_take (i := 19) (v := .pointer (some ⟨b1, 7, none⟩)) rfl (by kernel_rfl) (by kernel_rfl) (by kernel_rfl) (fun _ _ _ h => h) (Or.inl ⟨by rfl, ?_⟩) (by assumption) ?_
    · intro w hSw; go_simp
    try simp only [Act.put, List.getElem_toArray, List.getElem_cons_succ, List.getElem_cons_zero]
    try simp only [List.setIfInBounds_toArray, List.set_cons_zero, List.set_cons_succ]
    refine wpAnyH_take (i := 20) (v := .slice dA dn dc) rfl (by kernel_rfl) (by kernel_rfl) (by kernel_rfl) (fun _ _ _ h => h) (Or.inl ⟨by rfl, ?_⟩) (by assumption) ?_
    · intro w hSw; go_simp
    try simp only [Act.put, List.getElem_toArray, List.getElem_cons_succ, List.getElem_cons_zero]
    try simp only [List.setIfInBounds_toArray, List.set_cons_zero, List.set_cons_succ]
    refine wpAnyH_ready (rs := [21, 23]) (by kernel_rfl) (by simp) ?_
    refine AllReadyH.cons rfl (fun K hK => ?_) (AllReadyH.cons rfl (fun K hK => ?_) AllReadyH.nil)
    ·
      go_simp
      refine (HL.out _ (Below.refl _ _).drew).mono ?_
      rintro e w5 ⟨v1, qs, rfl, hO5, hq, hb5⟩
      obtain ⟨A1, k1, rfl⟩ := hO5.own.form
      have hb5c := (show Below W1.heap.size W1 w5 from ⟨hb5.os, hb5.tape, hb5.output, hb5.size, hb5.block⟩)
      go_wp2_with fail
      refine hK.out _ _ ?_ (fun hHeld => ?_)
      · exact HC.out _ hb5c
      clear hK K
      try simp only [Act.put, List.getElem_toArray, List.getElem_cons_succ, List.getElem_cons_zero]
      try simp only [Act.put, List.setIfInBounds_toArray, List.set_cons_zero, List.set_cons_succ]
      refine wpAnyH_take (i := 22) (v := .agg #[.int .i64 t, .int .i64 v, .int .i64 0, .int .i64 0, .int .i64 commit, .slice A1 qs.length k1]) rfl (by kernel_rfl) (by kernel_rfl) (by kernel_rfl) (fun _ _ _ h => h) (Or.inl ⟨by rfl, ?_⟩) (by assumption) ?_
      · intro w hSw; go_simp
      try simp only [Act.put, List.getElem_toArray, List.getElem_cons_succ, List.getElem_cons_zero]
      try simp only [List.setIfInBounds_toArray, List.set_cons_zero, List.set_cons_succ]
      refine wpAnyH_ready (rs := [23]) (by kernel_rfl) (by simp) ?_
      refine AllReadyH.cons rfl (fun K hK => ?_) AllReadyH.nil
      go_simp
      refine hK.out _ _ ?_ (fun hHeld => ?_)
      · exact HC.out _ (hb5c.alloc hb5c.size _)
      clear hK K
      try simp only [Act.put, List.getElem_toArray, List.getElem_cons_succ, List.getElem_cons_zero]
      try simp only [Act.put, List.setIfInBounds_toArray, List.set_cons_zero, List.set_cons_succ]
      have hES : EntsS (w5.alloc (.cells #[.int .i64 0, .int .i64 0, .int .i64 0, .int .i64 0, .int .i64 0, .slice none 0 0] 90)) (fun i => W1.drew.heap.size ≤ i ∧ i < w5.heap.size) A1 qs := hO5.entsS.1.keep (fun i hi => Below.heap_alloc _ _ _ hi.2)
      have hy7 := World.alloc_at w5 (.cells #[.int .i64 0, .int .i64 0, .int .i64 0, .int .i64 0, .int .i64 0, .slice none 0 0] 90)
      have hb7 := hb5c.alloc hb5c.size (.cells #[.int .i64 0, .int .i64 0, .int .i64 0, .int .i64 0, .int .i64 0, .slice none 0 0] 90)
      have hz7 := World.alloc_size w5 (.cells #[.int .i64 0, .int .i64 0, .int .i64 0, .int .i64 0, .int .i64 0, .slice none 0 0] 90)
      obtain ⟨y, hy⟩ : ∃ y, y = w5.heap.size := ⟨_, rfl⟩
      have hy1 : W1.heap.size ≤ y := by rw [hy]; exact hb5c.size
      rw [← hy] at hy7 hES hz7
      rw [← hy]
      clear hy
      generalize w5.alloc (.cells #[.int .i64 0, .int .i64 0, .int .i64 0, .int .i64 0, .int .i64 0, .slice none 0 0] 90) = w7 at hHeld hES hy7 hb7 hz7 ⊢
      have hSy : ∀ i, (W1.drew.heap.size ≤ i ∧ i < y) → i ≠ y ∧ i < w7.heap.size := fun i hi => ⟨Nat.ne_of_lt hi.2, by omega⟩
      have hSb : ∀ i, (W1.drew.heap.size ≤ i ∧ i < y) → i ≠ b1 := fun i hi => by have h : W1.heap.size ≤ i := hi.1; omega
      obtain ⟨c0, c1, c2, c3, c4, c5⟩ := cells6 hy7
      have hf7 := frozen_block hy7
      have hly7 := block_lt hy7
      have st := store6 hy7 (.int .i64 t) (.int .i64 v) (.int .i64 0) (.int .i64 0) (.int .i64 commit) (.slice A1 qs.length k1)
      have hyb : b1 ≠ y := by omega
      refine wpAnyH_ready (rs := [24]) (by kernel_rfl) (by simp) ?_
      refine AllReadyH.cons rfl (fun K hK => ?_) AllReadyH.nil
      go_simp
      refine hK.out _ _ ?_ (fun hHeld => ?_)
      · exact ⟨(cell_heap7 (st.2.1 b1 hyb) _).trans (HC.out _ hb7).1, (cell_heap7 (st.2.1 b1 hyb) _).trans (HC.out _ hb7).2.1, (cell_heap7 (st.2.1 b1 hyb) _).trans (HC.out _ hb7).2.2.1, (cell_heap7 (st.2.1 b1 hyb) _).trans (HC.out _ hb7).2.2.2.1, (cell_heap7 (st.2.1 b1 hyb) _).trans (HC.out _ hb7).2.2.2.2⟩
      clear hK K
      try simp only [Act.put, List.getElem_toArray, List.getElem_cons_succ, List.getElem_cons_zero]
      try simp only [Act.put, List.setIfInBounds_toArray, List.set_cons_zero, List.set_cons_succ]
      refine wpAnyH_done (by kernel_rfl) ?_ _
      try simp only [Act.put, List.getElem_toArray, List.getElem_cons_succ, List.getElem_cons_zero]
      try simp only [Act.put, List.setIfInBounds_toArray, List.set_cons_zero, List.set_cons_succ]
      go_wp2_with fail
      go_meet
      exact ⟨y, rfl, Lib.hid ⟨A1, k1, qs, st.1, st.2.2.2 _ _ hy1 hb7, ⟨_, hES.keep (fun i hi => st.2.1 i (hSy i hi).1), fun i hi => ⟨by rw [st.2.2.1]; exact (hSy i hi).2, hSb i hi⟩⟩, hq, hy1⟩⟩
    ·
      go_simp
      refine hK.out _ _ ?_ (fun hHeld => ?_)
      · exact HC.out _ ((Below.refl _ _).alloc (Nat.le_refl _) _).drew
      clear hK K
      try simp only [Act.put, List.getElem_toArray, List.getElem_cons_succ, List.getElem_cons_zero]
      try simp only [Act.put, List.setIfInBounds_toArray, List.set_cons_zero, List.set_cons_succ]
      have hy4 : (W1.alloc (.cells #[.int .i64 0, .int .i64 0, .int .i64 0, .int .i64 0, .int .i64 0, .slice none 0 0] 90)).drew.heap[W1.heap.size]? = _ := World.alloc_at W1 (.cells #[.int .i64 0, .int .i64 0, .int .i64 0, .int .i64 0, .int .i64 0, .slice none 0 0] 90)
      have hb4 : Below W1.heap.size W1 (W1.alloc (.cells #[.int .i64 0, .int .i64 0, .int .i64 0, .int .i64 0, .int .i64 0, .slice none 0 0] 90)).drew := ((Below.refl _ _).alloc (Nat.le_refl _) _).drew
      have hz4 : (W1.alloc (.cells #[.int .i64 0, .int .i64 0, .int .i64 0, .int .i64 0, .int .i64 0, .slice none 0 0] 90)).drew.heap.size = W1.heap.size + 1 := World.alloc_size W1 _
      obtain ⟨y, hy⟩ : ∃ y, y = W1.heap.size := ⟨_, rfl⟩
      have hy1 : W1.heap.size ≤ y := Nat.le_of_eq hy.symm
      try rw [HZ1.out] at hHeld
      rw [← hy] at hy4 hz4
      rw [← hy]
      clear hy
      generalize (W1.alloc (.cells #[.int .i64 0, .int .i64 0, .int .i64 0, .int .i64 0, .int .i64 0, .slice none 0 0] 90)).drew = w4 at hHeld hy4 hb4 hz4 ⊢
      refine wpAnyH_ready (rs := [21]) (by kernel_rfl) (by simp) ?_
      refine AllReadyH.cons rfl (fun K hK => ?_) AllReadyH.nil
      go_simp
      refine (HL.out _ hb4).mono ?_
      rintro e w7 ⟨v1, qs, rfl, hO5, hq, hb5⟩
      obtain ⟨A1, k1, rfl⟩ := hO5.own.form
      have hb7 := hb4.trans (hb5.mono hb4.size)
      go_wp2_with fail
      refine hK.out _ _ ?_ (fun hHeld => ?_)
      · exact HC.out _ hb7
      clear hK K
      try simp only [Act.put, List.getElem_toArray, List.getElem_cons_succ, List.getElem_cons_zero]
      try simp only [Act.put, List.setIfInBounds_toArray, List.set_cons_zero, List.set_cons_succ]
      refine wpAnyH_take (i := 22) (v := .agg #[.int .i64 t, .int .i64 v, .int .i64 0, .int .i64 0, .int .i64 commit, .slice A1 qs.length k1]) rfl (by kernel_rfl) (by kernel_rfl) (by kernel_rfl) (fun _ _ _ h => h) (Or.inl ⟨by rfl, ?_⟩) (by assumption) ?_
      · intro w hSw; go_simp
      try simp only [Act.put, List.getElem_toArray, List.getElem_cons_succ, List.getElem_cons_zero]
      try simp only [List.setIfInBounds_toArray, List.set_cons_zero, List.set_cons_succ]
      have hES := hO5.entsS.1
      have hy7 := (hb5.block y (block_lt hy4)).trans hy4
      have hSy : ∀ i, (w4.heap.size ≤ i ∧ i < w7.heap.size) → i ≠ y ∧ i < w7.heap.size := fun i hi => ⟨by omega, hi.2⟩
      have hSb : ∀ i, (w4.heap.size ≤ i ∧ i < w7.heap.size) → i ≠ b1 := fun i hi => by have := hb4.size; omega
      obtain ⟨c0, c1, c2, c3, c4, c5⟩ := cells6 hy7
      have hf7 := frozen_block hy7
      have hly7 := block_lt hy7
      have st := store6 hy7 (.int .i64 t) (.int .i64 v) (.int .i64 0) (.int .i64 0) (.int .i64 commit) (.slice A1 qs.length k1)
      have hyb : b1 ≠ y := by omega
      refine wpAnyH_ready (rs := [24]) (by kernel_rfl) (by simp) ?_
      refine AllReadyH.cons rfl (fun K hK => ?_) AllReadyH.nil
      go_simp
      refine hK.out _ _ ?_ (fun hHeld => ?_)
      · exact ⟨(cell_heap7 (st.2.1 b1 hyb) _).trans (HC.out _ hb7).1, (cell_heap7 (st.2.1 b1 hyb) _).trans (HC.out _ hb7).2.1, (cell_heap7 (st.2.1 b1 hyb) _).trans (HC.out _ hb7).2.2.1, (cell_heap7 (st.2.1 b1 hyb) _).trans (HC.out _ hb7).2.2.2.1, (cell_heap7 (st.2.1 b1 hyb) _).trans (HC.out _ hb7).2.2.2.2⟩
      clear hK K
      try simp only [Act.put, List.getElem_toArray, List.getElem_cons_succ, List.getElem_cons_zero]
      try simp only [Act.put, List.setIfInBounds_toArray, List.set_cons_zero, List.set_cons_succ]
      refine wpAnyH_done (by kernel_rfl) ?_ _
      try simp only [Act.put, List.getElem_toArray, List.getElem_cons_succ, List.getElem_cons_zero]
      try simp only [Act.put, List.setIfInBounds_toArray, List.set_cons_zero, List.set_cons_succ]
      go_wp2_with fail
      go_meet
      exact ⟨y, rfl, Lib.hid ⟨A1, k1, qs, st.1, st.2.2.2 _ _ hy1 hb7, ⟨_, hES.keep (fun i hi => st.2.1 i (hSy i hi).1), fun i hi => ⟨by rw [st.2.2.1]; exact (hSy i hi).2, hSb i hi⟩⟩, hq, hy1⟩⟩
  case rest =>
    obtain ⟨y, rfl, hR⟩ := hcut
    obtain ⟨A1, k1, qs, hy, hb, ⟨S', hE, hE'⟩, hq, hy1⟩ := hR.out
    have hS2 := (hb.block b1 (block_lt HS1.out)).trans HS1.out
    have hx2 := (hb.block x (block_lt HX1.out)).trans HX1.out
    have HY := Lib.hid hy
    have HB := Lib.hid hb
    have HE := Lib.hid hE
    have HE2 := Lib.hid hE'
    have HQ := Lib.hid hq
    have HS2 := Lib.hid hS2
    have HX2 := Lib.hid hx2
    obtain ⟨x0, x1, x2, x3, x4, x5⟩ := cells6 hx2
    obtain ⟨y0, y1, y2, y3, y4, y5⟩ := cells6 hy
    have d8 : wc.cell? ⟨b1, 8, none⟩ = some (.int .i64 cm0) := cell_block hS2 8 _ rfl
    have d10 : wc.cell? ⟨b1, 10, none⟩ = some (.int .i64 ro0) := cell_block hS2 10 _ rfl
    have d11 : wc.cell? ⟨b1, 11, none⟩ = some (.int .i64 le0) := cell_block hS2 11 _ rfl
    have hfb := frozen_block hS2
    have hlb : b1 < wc.heap.size := block_lt hS2
    have hlx : x < wc.heap.size := block_lt hx2
    have hly : y < wc.heap.size := block_lt hy
    clear hR hy hb hE hE' hq hS2 hx2
    go_wp2_with (fail)
    have hot : ∀ i, i ≠ b1 → (((wc.setCell ⟨b1, 8, none⟩ (.int .i64 commit)).setCell ⟨b1, 10, none⟩ (.int .i64 1)).setCell ⟨b1, 11, none⟩ (.int .i64 0)).heap[i]? = wc.heap[i]? := fun i hi => by rw [Below.heap_setCell _ _ _ _ hi, Below.heap_setCell _ _ _ _ hi, Below.heap_setCell _ _ _ _ hi]
    have hsz : (((wc.setCell ⟨b1, 8, none⟩ (.int .i64 commit)).setCell ⟨b1, 10, none⟩ (.int .i64 1)).setCell ⟨b1, 11, none⟩ (.int .i64 0)).heap.size = wc.heap.size := by simp only [World.setCell, Array.size_modify]
    have hS3 := block_setCell (o := 11) (block_setCell (o := 10) (block_setCell (o := 8) HS2.out (.int .i64 commit)) (.int .i64 1)) (.int .i64 0)
    have hbw : Below w.heap.size w wc := HB1.out.trans (HB.out.mono HB1.out.size)
    have hC3 := chg1 (o := 11) (chg1 (o := 10) (chg1 (o := 8) (Chg.ofBelow (F := fun i => i = b1) hbw) (.int .i64 commit)) (.int .i64 1)) (.int .i64 0)
    have hP3 := ((HP.out.keep (fun i hi => (hot i (HSS.out i hi).2).trans (hbw.block i (HSS.out i hi).1))).row (B := wc.heap.size) (fun i hi => Nat.lt_of_lt_of_le (HSS.out i hi).1 hbw.size))
    have hE3 := (HE.out.keep (fun i hi => hot i (HE2.out i hi).2)).ents (B := wc.heap.size) (fun i hi => (HE2.out i hi).1)
    rw [← hsz] at hP3 hE3
    clear x0 x1 x2 x3 x4 x5 y0 y1 y2 y3 y4 y5 d8 d10 d11 hfb hlb hlx hly hot hsz hbw
    generalize ((wc.setCell ⟨b1, 8, none⟩ (.int .i64 commit)).setCell ⟨b1, 10, none⟩ (.int .i64 1)).setCell ⟨b1, 11, none⟩ (.int .i64 0) = W3 at hS3 hC3 hP3 hE3 ⊢
    have HS3 := Lib.hid hS3
    have HC3 := Lib.hid hC3
    have HP3 := Lib.hid hP3
    have HE3 := Lib.hid hE3
    clear hS3 hC3 hP3 hE3
    refine (new_yes 1 pA 1 pc [1] L Mo Bt 5 t v 0 0 commit A1 qs.length k1 qs draw W3 HP3.out rfl HCF.out HE3.out rfl (by rw [HQ.out]; exact HST.out)).mono ?_
    rintro e W4 ⟨F, g, c, rfl, hN, hb4, hF, hcp, hcl, hcn⟩
    have hS4 := (hb4.block b1 (block_lt HS3.out)).trans HS3.out
    have hgb : g ≠ b1 := fun e => absurd (ne_typed hN.blk (by rw [e]; exact hS4)) (by decide)
    have HN := Lib.hid hN
    have HF := Lib.hid hF
    have HB4 := Lib.hid hb4
    have HS4 := Lib.hid hS4
    have HCP := Lib.hid hcp
    have HCL := Lib.hid hcl
    have HCN := Lib.hid hcn
    have HGB := Lib.hid hgb
    have d1 : W4.cell? ⟨b1, 1, none⟩ = some sp := cell_block hS4 1 _ rfl
    have hfb := frozen_block hS4
    have hlb : b1 < W4.heap.size := block_lt hS4
    clear hN hF hb4 hS4 hcp hcl hcn hgb
    go_wp2_with (fail)
    refine (num_zero _).mono ?_
    rintro e w5 ⟨rfl, rfl⟩
    go_wp2
    go_ret
    have hl3 := block_lt HS3.out
    have hz3 := HC3.out.size
    refine ⟨rfl, F, g, c, HN.out.keep (Nat.le_of_eq (by simp only [World.setCell, Array.size_modify])) (fun i hi hl => Below.heap_setCell _ _ _ _ (fun e => ?_)), ?_, chg1 (HC3.out.below HB4.out) _, fun i hi => Nat.le_trans hz3 (HF.out i hi), HCP.out, HCL.out.trans HQ.out, HCN.out⟩
    · rcases hi with hi | hi
      · have := HF.out i hi
        simp only at e
        omega
      · exact hi
    · rw [block_setCell HS4.out]; simp
end Go.Proofs.YtocogcgnahbpkaaGreat
