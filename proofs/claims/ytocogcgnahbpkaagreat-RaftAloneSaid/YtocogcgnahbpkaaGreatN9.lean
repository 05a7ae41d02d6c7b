/-
  raft.Node of a node alone: stand, begin.
-/
import Derived.Test.YtocogcgnahbpkaaGreatN8
namespace Go.Proofs.YtocogcgnahbpkaaGreat
open Go.RowKit

/-- Two new maps for granted and refused. -/
theorem stand_maps {W1 W2 : World} {F G : Nat → Prop} {b z : Nat} {s : NS} {c : NC} {gr : List (Int × Unit)} (h : NdAt W1 F G b s c) (hzz : z = W1.heap.size) (hb2 : Below W1.heap.size W1 W2) (hz : W2.heap.size = z + 2) (h1 : MB W2 z gr) (h2 : MB W2 (z + 1) []) :
    NdAt ((W2.setCell ⟨b, 21, none⟩ (.map (some z))).setCell ⟨b, 22, none⟩ (.map (some (z + 1)))) (fun i => F i ∨ (z ≤ i ∧ i < z + 2)) G b s { c with grR := some z, gr := gr, rfR := some (z + 1), rf := [] } := by
  subst hzz
  have hF := h.rest.bdF
  have hB2 := (hb2.block b h.lt).trans h.blk
  generalize hzz : W1.heap.size = z at *
  have hbz := hF b h.hb
  have hot : ∀ i, i ≠ b → ((W2.setCell ⟨b, 21, none⟩ (.map (some z))).setCell ⟨b, 22, none⟩ (.map (some (z + 1)))).heap[i]? = W2.heap[i]? := fun i hi => by
    rw [Below.heap_setCell _ _ _ _ hi, Below.heap_setCell _ _ _ _ hi]
  have hch0 : Chg (fun i => i = b) W2 ((W2.setCell ⟨b, 21, none⟩ (.map (some z))).setCell ⟨b, 22, none⟩ (.map (some (z + 1)))) := chg1 (chg1 Chg.refl _) _
  have hch := (Chg.ofBelow (F := fun i => i = b) (a := W1) (b := W2) (by rw [hzz]; exact hb2)).trans hch0
  have hr := h.rest
  have K : ∀ {β : Type} {venc : β → Value} {r l}, MapF venc W1 F r l → MapF venc ((W2.setCell ⟨b, 21, none⟩ (.map (some z))).setCell ⟨b, 22, none⟩ (.map (some (z + 1)))) (fun i => F i ∨ (z ≤ i ∧ i < z + 2)) r l := fun hm =>
    (hm.keepT fun i hi ⟨es, c, h1⟩ => (hot i (by rintro rfl; rw [h.blk] at h1; cases h1)).trans (hb2.block i (by have := hF i hi; omega))).mono fun i hi _ => .inl hi
  refine ⟨?_, .inl h.hb, NCAt.remaps (X := fun i => i = b) (F := F) (w := W1) hr h.blk h.hb hch (fun i hi => .inl hi) (fun i hi => .inl hi) ?_ ?_ (K hr.mt) (K hr.nx) (K hr.hd) ?_ ?_ (K hr.sn) ?_⟩
  · exact block_setCell (o := 22) (block_setCell (o := 21) hB2 _) _
  · intro i hi
    rcases hi with hi | hi
    · exact .inl hi
    · right; omega
  · intro i hi
    simp only [World.setCell, Array.size_modify]
    rcases hi with hi | hi
    · have := hF i hi; omega
    · omega
  · exact ⟨.inr ⟨Nat.le_refl _, by omega⟩, h1.same (hot z (by omega))⟩
  · exact ⟨.inr ⟨by omega, by omega⟩, h2.same (hot (z + 1) (by omega))⟩
  · have ha := hr.apart
    have l1 := fun i hi => hF i (hr.mt.lt i hi).2
    have l2 := fun i hi => hF i (hr.nx.lt i hi).2
    have l3 := fun i hi => hF i (hr.sn.lt i hi).2
    have l4 := fun i hi => hF i (hr.hd.lt i hi).2
    clear K hot hch h1 h2 hr h hB2 hch0 hb2
    revert ha l1 l2 l3 l4
    rcases c.grR with _ | g <;> rcases c.rfR with _ | f <;> rcases c.snR with _ | n <;> rcases c.mtR with _ | a1 <;> rcases c.nxR with _ | a2 <;> rcases c.hdR with _ | a3 <;> simp <;> omega

def NS.stand1 (s : NS) : NS := NS.rest { s with term := s.term + 1, vote := s.id, role := 3, leader := 0, heir := 0 }

set_option maxRecDepth 100000 in
set_option maxHeartbeats 2000000 in
theorem stand_alone (b : Nat) (s : NS) (c : NC) (forced : Bool) (F G : Nat → Prop) (w : World) (h : NdAt w F G b s c) (hl : c.peers.length = 1) (ho : others s.id c.peers = []) (h0 : 0 ≤ s.snap) (h1 : s.snap + c.log.length < 1099511627776) (h2 : c.log.length ≤ 65536) (hc0 : s.snap ≤ s.commit) (hc1 : s.commit ≤ s.snap + c.log.length)
    (g0 : 0 ≤ s.least) (g1 : s.least ≤ s.most) (g2 : s.most ≤ 1000) (t0 : 0 ≤ s.term) (t1 : s.term ≤ 1099511627776) (hid : okI s.id) :
    Calls Tryz.prog 137 #[.pointer (some ⟨b, 0, none⟩), .bool forced] w fun e w' => e = .returned (.tuple #[]) ∧ ∃ F' c', NdAt w' F' G b (s.stand1.leadA (c.log.map con) 1) c' ∧ c'.log.map con = c.log.map con ++ [⟨s.snap + c.log.length + 1, s.term + 1, []⟩] ∧
      c' = { c with lA := c'.lA, ln := c'.ln, lc := c'.lc, log := c'.log, mtR := some (c'.mtR.getD 0), mt := [], nxR := c'.nxR, nx := [], hdR := c'.hdR, hd := [], grR := c'.grR, gr := [(s.id, ())], rfR := c'.rfR, rf := [] } ∧ Chg F w w' ∧ (∀ i, F i → F' i) ∧ (∀ i, F' i → F i ∨ w.heap.size ≤ i) := by
  have hb := h.blk
  have c0 := nc0 hb
  have c6 := nc6 hb
  have c7 := nc7 hb
  have hf := frozen_block hb
  have c12 := nc12 hb
  have c13 := nc13 hb
  have c20 := nc20 hb
  clear hb
  go_enter Tryz.func137, Tryz.ntmps137
  go_wp2
  go_region
  go_wp2_with (fail)
  generalize hW0 : (((((w.setCell ⟨b, 6, none⟩ (.int .i64 (s.term + 1))).setCell ⟨b, 7, none⟩ (.int .i64 s.id)).setCell ⟨b, 12, none⟩ (.int .i64 3)).setCell ⟨b, 13, none⟩ (.int .i64 0)).setCell ⟨b, 20, none⟩ (.int .i64 0)).drew = W0
  have hB0 : W0.heap[b]? = some (.cells (ncells { s with term := s.term + 1, vote := s.id, role := 3, leader := 0, heir := 0 } c) 126 (0, 0)) := by
    rw [← hW0]
    exact block_setCell (o := 20) (block_setCell (o := 13) (block_setCell (o := 12) (block_setCell (o := 7) (block_setCell (o := 6) h.blk (.int .i64 (s.term + 1))) (.int .i64 s.id)) (.int .i64 3)) (.int .i64 0)) (.int .i64 0)
  have hC0 : Chg (fun i => i = b) w W0 := by rw [← hW0]; exact (chg1 (chg1 (chg1 (chg1 (chg1 Chg.refl _) _) _) _) _).drew
  clear hW0 c0 c6 c7 hf c12 c13 c20
  refine (rest_any b _ c W0 hB0 g0 g1 g2).mono ?_
  rintro e W1 ⟨rfl, hC1, hB1⟩
  have hN1 := h.scal (s' := s.stand1) (hC0.trans hC1) hB1
  have hC1' : Chg F w W1 := (hC0.trans hC1).mono fun i hi => .inl (hi ▸ h.hb)
  have HN1 := Lib.hid hN1
  have HX := Lib.hid h.rest.bdF
  clear hN1 hB0 hC0 hC1 hB1 h
  have hidd : (W1.heap[b]?) = some (.cells (ncells s.stand1 c) 126 (0, 0)) := HN1.out.blk
  have c0 := nc0 hidd
  change W1.cell? ⟨b, 0, none⟩ = some (.int .i64 s.id) at c0
  clear hidd
  go_wp2_with (fail)
  rw [run_makeMap]
  have hm0 : MB (W1.alloc (.map #[] 0)) W1.heap.size [] := MapG.made W1
  have hba : Below W1.heap.size W1 (W1.alloc (.map #[] 0)) := (Below.refl _ _).alloc (Nat.le_refl _) _
  have hza : (W1.alloc (.map #[] 0)).heap.size = W1.heap.size + 1 := World.alloc_size _ _
  have c0a : (W1.alloc (.map #[] 0)).cell? ⟨b, 0, none⟩ = some (.int .i64 s.id) := (hba.cell (p := ⟨b, 0, none⟩) HN1.out.lt).trans c0
  generalize W1.alloc (.map #[] 0) = Wa at hm0 hba hza c0a ⊢
  obtain ⟨W2, hrun, hM2, hg2, hz2⟩ := hm0.put KI Tryz.underlying53 s.id hid ()
  have hb2 : Below W1.heap.size W1 W2 := hba.grown hg2 (by omega) (fun k hk => by injection hk with hk; omega)
  have hz2' : W2.heap.size = W1.heap.size + 1 := hz2.trans hza
  clear c0 hza hba hg2 hz2 hm0
  go_wp2_with (fail)
  clear hrun c0a
  rw [run_makeMap, hz2']
  have hm3 : MB (W2.alloc (.map #[] 0)) (W1.heap.size + 1) [] := by rw [← hz2']; exact MapG.made W2
  have hm2 : MB (W2.alloc (.map #[] 0)) W1.heap.size [(s.id, ())] := MapG.alloc hM2 _
  have hb3 : Below W1.heap.size W1 (W2.alloc (.map #[] 0)) := hb2.alloc (by omega) _
  have hz3 : (W2.alloc (.map #[] 0)).heap.size = W1.heap.size + 2 := by rw [World.alloc_size, hz2']
  generalize W2.alloc (.map #[] 0) = W3 at hm3 hm2 hb3 hz3 ⊢
  have HN3 := HN1.out.below hb3
  have hb := HN3.blk
  have hf := frozen_block hb
  have c21 := nc21 hb
  have c22 := nc22 hb
  have hN4 := stand_maps HN1.out rfl hb3 hz3 hm2 hm3
  have HN4 := Lib.hid hN4
  have HC3 := Lib.hid (hC1'.below hb3)
  clear hN4 hb HN3 hm2 hm3 hz2' hb2 hM2
  have HZ3 := Lib.hid hz3
  clear hz3
  go_wp2_with (fail)
  have hC4 : Chg F w ((W3.setCell ⟨b, 21, none⟩ (.map (some W1.heap.size))).setCell ⟨b, 22, none⟩ (.map (some (W1.heap.size + 1)))) := HC3.out.setCell (.inl HN1.out.hb) _ |>.setCell (.inl HN1.out.hb) _
  have hFF := Lib.hid (show ∀ i, (F i ∨ (W1.heap.size ≤ i ∧ i < W1.heap.size + 2)) → F i ∨ w.heap.size ≤ i from fun i hi => by
    have := hC1'.size
    rcases hi with h | h
    · exact .inl h
    · right; omega)
  clear HC3 hf c21 c22 hb3 HZ3
  generalize (W3.setCell ⟨b, 21, none⟩ (.map (some W1.heap.size))).setCell ⟨b, 22, none⟩ (.map (some (W1.heap.size + 1))) = W4 at HN4 hC4 ⊢
  clear HN1 hC1'
  generalize W1.heap.size = z at HN4 hFF ⊢
  have hpn := (Own.cap HN4.out.rest.peers).1
  have hpb : decide ((c.pn : Int) < 2 * 1) = true := by
    have : c.pn = 1 := hpn.trans hl
    rw [this]; rfl
  clear hpn
  refine (majority_any b _ _ 1 W4 HN4.out.blk (by omega) (by omega)).mono ?_
  rintro e W5 ⟨rfl, rfl⟩
  simp only
  rw [hpb]
  clear hpb
  go_wp2_with (fail)
  refine (lead_alone b s.stand1 _ _ G W5 HN4.out (by show c.peers.length ≤ 7; rw [hl]; decide) ho h0 h1 h2 hc0 hc1).mono ?_
  rintro e W6 ⟨rfl, F6, c6, HN6, hq6, hc6, hC6, hF6, hF6'⟩
  have HH := Lib.hid (And.intro HN6 (And.intro hq6 (And.intro hc6 (And.intro hC6 (And.intro hF6 hF6')))))
  clear HN6 hq6 hc6 hC6 hF6 hF6'
  go_wp2
  refine bodyPost_ret (results_none rfl _ _ _) rfl ?_
  obtain ⟨k1, k2, k3, k4, k5, k6⟩ := HH.out
  have hz4 := hC4.size
  refine ⟨rfl, F6, c6, by rw [← hl]; exact k1, k2, by rw [show c6.grR = some z by rw [k3], show c6.rfR = some (z + 1) by rw [k3]]; exact k3, hC4.trans2 k4 (fun i hi => hFF.out i hi), fun i hi => k5 i (.inl hi), fun i hi => ?_⟩
  rcases k6 i hi with h | h
  · exact hFF.out i h
  · right; omega

/-- One new map for granted, in the place of the old one. -/
theorem begin_maps {W1 W2 : World} {F G : Nat → Prop} {b z : Nat} {s : NS} {c : NC} {gr : List (Int × Unit)} (h : NdAt W1 F G b s c) (hzz : z = W1.heap.size) (hb2 : Below W1.heap.size W1 W2) (hz : W2.heap.size = z + 1) (h1 : MB W2 z gr) :
    NdAt (W2.setCell ⟨b, 21, none⟩ (.map (some z))) (fun i => F i ∨ (z ≤ i ∧ i < z + 1)) G b s { c with grR := some z, gr := gr } := by
  subst hzz
  have hF := h.rest.bdF
  have hB2 := (hb2.block b h.lt).trans h.blk
  generalize hzz : W1.heap.size = z at *
  have hbz := hF b h.hb
  have hot : ∀ i, i ≠ b → (W2.setCell ⟨b, 21, none⟩ (.map (some z))).heap[i]? = W2.heap[i]? := fun i hi => by
    rw [Below.heap_setCell _ _ _ _ hi]
  have hch0 : Chg (fun i => i = b) W2 (W2.setCell ⟨b, 21, none⟩ (.map (some z))) := chg1 Chg.refl _
  have hch := (Chg.ofBelow (F := fun i => i = b) (a := W1) (b := W2) (by rw [hzz]; exact hb2)).trans hch0
  have hr := h.rest
  have K : ∀ {β : Type} {venc : β → Value} {r l}, MapF venc W1 F r l → MapF venc (W2.setCell ⟨b, 21, none⟩ (.map (some z))) (fun i => F i ∨ (z ≤ i ∧ i < z + 1)) r l := fun hm =>
    (hm.keepT fun i hi ⟨es, c, h1⟩ => (hot i (by rintro rfl; rw [h.blk] at h1; cases h1)).trans (hb2.block i (by have := hF i hi; omega))).mono fun i hi _ => .inl hi
  refine ⟨?_, .inl h.hb, NCAt.remaps (X := fun i => i = b) (F := F) (w := W1) hr h.blk h.hb hch (fun i hi => .inl hi) (fun i hi => .inl hi) ?_ ?_ (K hr.mt) (K hr.nx) (K hr.hd) ?_ (K hr.rf) (K hr.sn) ?_⟩
  · exact block_setCell (o := 21) hB2 _
  · intro i hi
    rcases hi with hi | hi
    · exact .inl hi
    · right; omega
  · intro i hi
    simp only [World.setCell, Array.size_modify]
    rcases hi with hi | hi
    · have := hF i hi; omega
    · omega
  · exact ⟨.inr ⟨Nat.le_refl _, by omega⟩, h1.same (hot z (by omega))⟩
  · have ha := hr.apart
    have l1 := fun i hi => hF i (hr.mt.lt i hi).2
    have l2 := fun i hi => hF i (hr.nx.lt i hi).2
    have l3 := fun i hi => hF i (hr.sn.lt i hi).2
    have l4 := fun i hi => hF i (hr.hd.lt i hi).2
    have l5 := fun i hi => hF i (hr.rf.lt i hi).2
    clear K hot hch h1 hr h hB2 hch0 hb2
    revert ha l1 l2 l3 l4 l5
    rcases c.grR with _ | g <;> rcases c.rfR with _ | f <;> rcases c.snR with _ | n <;> rcases c.mtR with _ | a1 <;> rcases c.nxR with _ | a2 <;> rcases c.hdR with _ | a3 <;> simp <;> omega
end Go.Proofs.YtocogcgnahbpkaaGreat
