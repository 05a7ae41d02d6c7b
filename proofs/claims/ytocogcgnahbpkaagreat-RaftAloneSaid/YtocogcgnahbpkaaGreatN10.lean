/-
  raft.Node of a node alone: begin, tick.
-/
import Derived.Test.YtocogcgnahbpkaaGreatN9
namespace Go.Proofs.YtocogcgnahbpkaaGreat
open Go.RowKit

/-- What a node alone is behind a beginning. -/
structure Began (w w' : World) (F F' G : Nat → Prop) (b : Nat) (s : NS) (c c' : NC) : Prop where
  nd : NdAt w' F' G b (s.stand1.leadA (c.log.map con) 1) c'
  log : c'.log.map con = c.log.map con ++ [⟨s.snap + c.log.length + 1, s.term + 1, []⟩]
  rest : c' = { c with lA := c'.lA, ln := c'.ln, lc := c'.lc, log := c'.log, mtR := some (c'.mtR.getD 0), mt := [], nxR := c'.nxR, nx := [], hdR := c'.hdR, hd := [], grR := c'.grR, gr := [(s.id, ())], rfR := c'.rfR, rf := [] }
  chg : Chg F w w'
  sub : ∀ i, F i → F' i
  sub' : ∀ i, F' i → F i ∨ w.heap.size ≤ i

structure AloneOK (s : NS) (c : NC) : Prop where
  peers : c.peers = [s.id]
  snap0 : 0 ≤ s.snap
  last : s.snap + c.log.length < 1099511627776
  len : c.log.length < 65536
  commit0 : s.snap ≤ s.commit
  commit1 : s.commit ≤ s.snap + c.log.length
  least : 0 ≤ s.least
  most : s.least ≤ s.most
  most1 : s.most ≤ 1000
  term0 : 0 ≤ s.term
  term1 : s.term < 1099511627776
  id : okI s.id
theorem AloneOK.others {s : NS} {c : NC} (h : AloneOK s c) : others s.id c.peers = [] := by rw [h.peers]; simp [Go.Proofs.YtocogcgnahbpkaaGreat.others]
theorem AloneOK.one {s : NS} {c : NC} (h : AloneOK s c) : c.peers.length = 1 := by rw [h.peers]; rfl

set_option maxRecDepth 100000 in
set_option maxHeartbeats 2000000 in
theorem begin_alone (b : Nat) (s : NS) (c : NC) (F G : Nat → Prop) (w : World) (h : NdAt w F G b s c) (hok : AloneOK s c) :
    Calls Tryz.prog 95 #[.pointer (some ⟨b, 0, none⟩)] w fun e w' => e = .returned (.tuple #[]) ∧ ∃ F' c', Began w w' F F' G b s c c' := by
  have OK := Lib.hid hok
  have hln : c.ln = c.log.length := h.rest.log.ents.2.1
  have hstuck : stuckB s.rest c.ln = false := by
    have g1 := hok.term1; have g2 := hok.last; have g3 := hok.len
    refine decide_eq_false ?_
    show ¬ (s.term = _ ∨ s.snap + _ = _ ∨ _)
    omega
  have HS := Lib.hid hstuck
  have hl9 : c.ln ≤ 4611686018427387 := by have := hok.len; omega
  have hs0 := hok.snap0
  have hs9 : s.snap ≤ 4611686018427387904 := by have := hok.last; omega
  have hidk := hok.id
  clear hok hln hstuck
  go_enter Tryz.func95, Tryz.ntmps95
  go_wp2_with (fail)
  refine (rest_any b s c w h.blk OK.out.least OK.out.most OK.out.most1).mono ?_
  rintro e W1 ⟨rfl, hC1, hB1⟩
  have hN1 := h.scal (s' := s.rest) hC1 hB1
  have hC1' : Chg F w W1 := hC1.mono fun i hi => .inl (hi ▸ h.hb)
  have HN1 := Lib.hid hN1
  clear hN1 hC1 hB1 h
  go_wp2_with (fail)
  refine (stuck_any b s.rest c W1 HN1.out.blk hs0 hs9 hl9).mono ?_
  rintro e W1' ⟨rfl, nq, rfl⟩
  rw [HS.out]
  have HN2 := Lib.hid (HN1.out.drewN nq)
  have hC2 := hC1'.drewN nq
  clear HN1 hC1'
  generalize W1.drewN nq = W2 at HN2 hC2 ⊢
  have hb := HN2.out.blk
  have hf := frozen_block hb
  have c12 := nc12 hb
  have c13 := nc13 hb
  have c20 := nc20 hb
  have hB3 := block_setCell (o := 20) (block_setCell (o := 13) (block_setCell (o := 12) hb (.int .i64 2)) (.int .i64 0)) (.int .i64 0)
  have HB3 := Lib.hid hB3
  clear hb hB3
  go_wp2_with (fail)
  have hN3 := HN2.out.scal (s' := { s.rest with role := 2, leader := 0, heir := 0 }) (chg1 (chg1 (chg1 Chg.refl (.int .i64 2)) (.int .i64 0)) (.int .i64 0)) HB3.out
  have hC3 := chgF (o := 20) (chgF (o := 13) (chgF (o := 12) hC2 HN2.out.hb (.int .i64 2)) HN2.out.hb (.int .i64 0)) HN2.out.hb (.int .i64 0)
  clear c12 c13 c20 hf HB3 HN2 hC2
  generalize ((W2.setCell ⟨b, 12, none⟩ (.int .i64 2)).setCell ⟨b, 13, none⟩ (.int .i64 0)).setCell ⟨b, 20, none⟩ (.int .i64 0) = W3 at hN3 hC3 ⊢
  have HN3 := Lib.hid hN3
  have c0 := nc0 hN3.blk
  change W3.cell? ⟨b, 0, none⟩ = some (.int .i64 s.id) at c0
  rw [run_makeMap]
  have hm0 : MB (W3.alloc (.map #[] 0)) W3.heap.size [] := MapG.made W3
  have hba : Below W3.heap.size W3 (W3.alloc (.map #[] 0)) := (Below.refl _ _).alloc (Nat.le_refl _) _
  have hza : (W3.alloc (.map #[] 0)).heap.size = W3.heap.size + 1 := World.alloc_size _ _
  have c0a : (W3.alloc (.map #[] 0)).cell? ⟨b, 0, none⟩ = some (.int .i64 s.id) := (hba.cell (p := ⟨b, 0, none⟩) hN3.lt).trans c0
  clear hN3 c0
  generalize W3.alloc (.map #[] 0) = Wa at hm0 hba hza c0a ⊢
  obtain ⟨W4, hrun, hM4, hg4, hz4⟩ := hm0.put KI Tryz.underlying53 s.id hidk ()
  have hb4 : Below W3.heap.size W3 W4 := hba.grown hg4 (by omega) (fun k hk => by injection hk with hk; omega)
  have hz4' : W4.heap.size = W3.heap.size + 1 := hz4.trans hza
  have HZ4 := Lib.hid hz4'
  have HM4 := Lib.hid hM4
  have hb9 := (HN3.out.below hb4).blk
  have hf9 := frozen_block hb9
  have c21 := nc21 hb9
  clear hza hba hg4 hz4 hm0 hz4' hM4 hb9
  go_wp2_with (fail)
  have hN5 := begin_maps HN3.out rfl hb4 HZ4.out HM4.out
  have hC5 := chgF (o := 21) (hC3.below hb4) HN3.out.hb (.map (some W3.heap.size))
  have hFF := Lib.hid (show ∀ i, (F i ∨ (W3.heap.size ≤ i ∧ i < W3.heap.size + 1)) → F i ∨ w.heap.size ≤ i from fun i hi => by
    have := hC3.size
    rcases hi with h | h
    · exact .inl h
    · right; omega)
  clear hrun c0a hf9 c21 HZ4 HM4 hb4 hC3 HN3
  generalize W4.setCell ⟨b, 21, none⟩ (.map (some W3.heap.size)) = W5 at hN5 hC5 ⊢
  generalize W3.heap.size = z at hN5 hFF ⊢
  have HN5 := Lib.hid hN5
  have hpn := (Own.cap hN5.rest.peers).1
  have hpb : decide ((c.pn : Int) < 2 * 1) = true := by
    have : c.pn = 1 := hpn.trans OK.out.one
    rw [this]; rfl
  clear hpn hN5
  refine (majority_any b _ _ 1 W5 HN5.out.blk (by omega) (by omega)).mono ?_
  rintro e W6 ⟨rfl, rfl⟩
  simp only
  rw [hpb]
  clear hpb
  go_wp2_with (fail)
  refine (stand_alone b _ _ false _ G W6 HN5.out OK.out.one OK.out.others hs0 OK.out.last (Nat.le_of_lt OK.out.len) OK.out.commit0 OK.out.commit1 OK.out.least OK.out.most OK.out.most1 OK.out.term0 (Int.le_of_lt OK.out.term1) hidk).mono ?_
  rintro e W7 ⟨rfl, F7, c7, k1, k2, k3, k4, k5, k6⟩
  have HH := Lib.hid (And.intro k1 (And.intro k2 (And.intro k3 (And.intro k4 (And.intro k5 k6)))))
  clear k1 k2 k3 k4 k5 k6
  go_wp2
  refine bodyPost_ret (results_none rfl _ _ _) rfl ?_
  obtain ⟨k1, k2, k3, k4, k5, k6⟩ := HH.out
  have hz5 := hC5.size
  refine ⟨rfl, F7, c7, ⟨k1, k2, k3, hC5.trans2 k4 (fun i hi => hFF.out i hi), fun i hi => k5 i (.inl hi), fun i hi => ?_⟩⟩
  rcases k6 i hi with h | h
  · exact hFF.out i h
  · right; omega
end Go.Proofs.YtocogcgnahbpkaaGreat
