/-
  raft.Node of a node alone: tick.
-/
import Derived.Test.YtocogcgnahbpkaaGreatN10
namespace Go.Proofs.YtocogcgnahbpkaaGreat
open Go.RowKit

theorem below_alloc1 (w : World) (o : Obj) : Below w.heap.size w (w.alloc o) := (Below.refl _ _).alloc (Nat.le_refl _) o

set_option maxRecDepth 100000 in
set_option maxHeartbeats 1000000 in
theorem tick_wait (b : Nat) (s : NS) (c : NC) (ev : Array Value) (F G : Nat → Prop) (w : World) (h : NdAt w F G b s c) (hr : s.role ≠ 4) (he : s.elapsed + 1 < s.timeout) (he0 : 0 ≤ s.elapsed) (he1 : s.elapsed ≤ 100000) :
    Calls Tryz.prog 72 #[.pointer (some ⟨b, 0, none⟩), .agg ev] w fun e w' => e = .returned (.int .i64 0) ∧ NdAt w' F G b { s with elapsed := s.elapsed + 1 } c ∧ Chg F w w' := by
  have c14 := nc14 h.blk
  have c12 := nc12 h.blk
  have c15 := nc15 h.blk
  have hf := frozen_block h.blk
  have hlt := h.lt
  have hrb : (s.role != 4) = true := by rw [bne_iff_ne]; exact hr
  have hN := (h.scal (s' := { s with elapsed := s.elapsed + 1 }) (chg1 Chg.refl (.int .i64 (s.elapsed + 1))) (block_setCell (o := 14) h.blk (.int .i64 (s.elapsed + 1)))).below (below_alloc1 _ (.cells ev 61))
  have hC := (chgF (o := 14) (Chg.refl (F := F) (w := w)) h.hb (.int .i64 (s.elapsed + 1))).below (below_alloc1 _ (.cells ev 61))
  have HN := Lib.hid hN
  have HC := Lib.hid hC
  clear hN hC hr h
  go_enter Tryz.func72, Tryz.ntmps72
  go_wp2
  generalize (w.setCell ⟨b, 14, none⟩ (.int .i64 (s.elapsed + 1))).alloc (.cells ev 61) = W at HN HC ⊢
  clear c14 c12 c15 hf hlt
  have d14 := nc14 HN.out.blk
  have d15 := nc15 HN.out.blk
  simp only at d14 d15
  go_quiet (fail)
  go_wp2
  go_ret
  exact ⟨rfl, HN.out.drewN _, HC.out.drewN _⟩

set_option maxRecDepth 100000 in
set_option maxHeartbeats 1000000 in
theorem tick_begin (b : Nat) (s : NS) (c : NC) (ev : Array Value) (F G : Nat → Prop) (w : World) (h : NdAt w F G b s c) (hok : AloneOK s c) (hr : s.role ≠ 4) (he : s.timeout ≤ s.elapsed + 1) (he0 : 0 ≤ s.elapsed) (he1 : s.elapsed ≤ 100000) :
    Calls Tryz.prog 72 #[.pointer (some ⟨b, 0, none⟩), .agg ev] w fun e w' => e = .returned (.int .i64 0) ∧ ∃ F' c', Began w w' F F' G b s c c' := by
  have c14 := nc14 h.blk
  have c12 := nc12 h.blk
  have hf := frozen_block h.blk
  have hlt := h.lt
  have hrb : (s.role != 4) = true := by rw [bne_iff_ne]; exact hr
  have hN := (h.scal (s' := { s with elapsed := s.elapsed + 1 }) (chg1 Chg.refl (.int .i64 (s.elapsed + 1))) (block_setCell (o := 14) h.blk (.int .i64 (s.elapsed + 1)))).below (below_alloc1 _ (.cells ev 61))
  have hC := (chgF (o := 14) (Chg.refl (F := F) (w := w)) h.hb (.int .i64 (s.elapsed + 1))).below (below_alloc1 _ (.cells ev 61))
  have HN := Lib.hid hN
  have HC := Lib.hid hC
  have OK := Lib.hid hok
  clear hN hC hr h hok
  go_enter Tryz.func72, Tryz.ntmps72
  go_wp2
  generalize (w.setCell ⟨b, 14, none⟩ (.int .i64 (s.elapsed + 1))).alloc (.cells ev 61) = W at HN HC ⊢
  clear c14 c12 hf hlt
  have d14 := nc14 HN.out.blk
  have d15 := nc15 HN.out.blk
  simp only at d14 d15
  go_quiet (fail)
  have HN2 := Lib.hid (HN.out.drewN nq)
  have hC2 := HC.out.drewN nq
  clear HN HC d14 d15
  generalize W.drewN nq = W2 at HN2 hC2 ⊢
  go_wp2_with (fail)
  refine (begin_alone b _ c F G W2 HN2.out ⟨OK.out.peers, OK.out.snap0, OK.out.last, OK.out.len, OK.out.commit0, OK.out.commit1, OK.out.least, OK.out.most, OK.out.most1, OK.out.term0, OK.out.term1, OK.out.id⟩).mono ?_
  rintro e W3 ⟨rfl, F3, c3, hB⟩
  have HB := Lib.hid hB
  clear hB
  go_wp2
  go_ret
  have hB := HB.out
  have hz := hC2.size
  refine ⟨rfl, F3, c3, ⟨hB.nd, hB.log, hB.rest, hC2.trans hB.chg, hB.sub, fun i hi => ?_⟩⟩
  rcases hB.sub' i hi with h | h
  · exact .inl h
  · right; omega

def NS.ticked (s : NS) : NS := { s with elapsed := s.elapsed + 1, beat := if s.beatc ≤ s.beat + 1 then 0 else s.beat + 1 }

set_option maxRecDepth 100000 in
set_option maxHeartbeats 1000000 in
theorem tick_lead (b : Nat) (s : NS) (c : NC) (ev : Array Value) (F G : Nat → Prop) (w : World) (h : NdAt w F G b s c) (hok : AloneOK s c) (hr : s.role = 4) (he : s.elapsed + 1 < s.most) (he0 : 0 ≤ s.elapsed) (he1 : s.elapsed ≤ 100000) (hb0 : 0 ≤ s.beat) (hb1 : s.beat ≤ 100000) :
    Calls Tryz.prog 72 #[.pointer (some ⟨b, 0, none⟩), .agg ev] w fun e w' => e = .returned (.int .i64 0) ∧ NdAt w' F G b s.ticked c ∧ Chg F w w' := by
  have c14 := nc14 h.blk
  have c12 := nc12 h.blk
  have c19 := nc19 h.blk
  have hf := frozen_block h.blk
  have hlt := h.lt
  have hrb : (s.role != 4) = false := by rw [bne_eq_false_iff_eq]; exact hr
  have hN := ((h.scal (s' := { s with elapsed := s.elapsed + 1 }) (chg1 Chg.refl (.int .i64 (s.elapsed + 1))) (block_setCell (o := 14) h.blk (.int .i64 (s.elapsed + 1)))).scal (s' := { s with elapsed := s.elapsed + 1, beat := s.beat + 1 }) (chg1 Chg.refl (.int .i64 (s.beat + 1)))
    (block_setCell (o := 19) (block_setCell (o := 14) h.blk (.int .i64 (s.elapsed + 1))) (.int .i64 (s.beat + 1)))).below (below_alloc1 _ (.cells ev 61))
  have hC := (chgF (o := 19) (chgF (o := 14) (Chg.refl (F := F) (w := w)) h.hb (.int .i64 (s.elapsed + 1))) h.hb (.int .i64 (s.beat + 1))).below (below_alloc1 _ (.cells ev 61))
  have HN := Lib.hid hN
  have HC := Lib.hid hC
  have OK := Lib.hid hok
  have HR := Lib.hid hr
  clear hN hC hr h hok
  go_enter Tryz.func72, Tryz.ntmps72
  go_wp2
  generalize ((w.setCell ⟨b, 14, none⟩ (.int .i64 (s.elapsed + 1))).setCell ⟨b, 19, none⟩ (.int .i64 (s.beat + 1))).alloc (.cells ev 61) = W at HN HC ⊢
  clear c14 c12 c19 hf hlt
  have d14 := nc14 HN.out.blk
  have d3 := nc3 HN.out.blk
  simp only at d14 d3
  go_quiet (fail)
  have HN2 := Lib.hid (HN.out.drewN nq)
  have hC2 := HC.out.drewN nq
  clear HN HC d14 d3
  generalize W.drewN nq = W2 at HN2 hC2 ⊢
  have d19 := nc19 HN2.out.blk
  have d4 := nc4 HN2.out.blk
  simp only at d19 d4
  by_cases hbt : s.beatc ≤ s.beat + 1
  · have HT := Lib.hid (show s.ticked = { s with elapsed := s.elapsed + 1, beat := 0 } by simp [NS.ticked, hbt])
    go_wp2
    go_quiet (fail)
    have HN3 := Lib.hid (HN2.out.drewN nq)
    have hC3 := hC2.drewN nq
    clear HN2 hC2 d19 d4
    generalize W2.drewN nq = W3 at HN3 hC3 ⊢
    have e19 := nc19 HN3.out.blk
    simp only at e19
    have hf := frozen_block HN3.out.blk
    go_wp2_with (fail)
    have hN4 := HN3.out.scal (s' := { s with elapsed := s.elapsed + 1, beat := 0 }) (chg1 Chg.refl (.int .i64 0)) (block_setCell (o := 19) HN3.out.blk (.int .i64 0))
    have hC4 := chgF (o := 19) hC3 HN3.out.hb (.int .i64 0)
    clear e19 hf HN3 hC3
    generalize W3.setCell ⟨b, 19, none⟩ (.int .i64 0) = W4 at hN4 hC4 ⊢
    have HN4 := Lib.hid hN4
    clear hN4
    refine (sendAll_alone b _ c W4 HN4.out.blk HN4.out.rest.peers (by rw [OK.out.one]; decide) OK.out.others).mono ?_
    rintro e W5 ⟨rfl, hb5⟩
    go_wp2
    go_ret
    exact ⟨rfl, by rw [HT.out]; exact HN4.out.below hb5, hC4.below hb5⟩
  · have HT := Lib.hid (show s.ticked = { s with elapsed := s.elapsed + 1, beat := s.beat + 1 } by simp [NS.ticked, hbt])
    go_wp2
    go_quiet (fail)
    go_wp2
    go_ret
    exact ⟨rfl, by rw [HT.out]; exact HN2.out.drewN _, hC2.drewN _⟩
end Go.Proofs.YtocogcgnahbpkaaGreat
