/-
  cluster.config.
-/
import Derived.Test.YtjoaldaldcpfeaaGreatDoorK0
import Derived.Test.YtjoaldaldcpfeaaGreatDoorT2
namespace Go.Proofs.YtjoaldaldcpfeaaGreatDoor
open Go.RowKit

/-- The configuration of a node's replicas. -/
def RC.of (r : RC) (node : Int) (A : Option Addr) (n k : Nat) : RC := { r with id := node + 1, pA := A, pn := n, pc := k }

def zeroRC : Array Value := #[.int .i64 0, .slice none 0 0, .int .i64 0, .int .i64 0, .int .i64 0, .int .i64 0, .int .i64 0, .int .i64 0, .int .i64 0, .int .i64 0, .int .i64 0, .int .i64 0, .int .i64 0, .int .i64 0]
structure CfgSt (w wr : World) (c : CF) (node k : Nat) (A : Option Addr) (k' : Nat) : Prop where
  rb : wr.heap[w.heap.size + 2]? = some (.cells (c.r.of node A k k').cells 34 (0, 0))
  rc : wr.heap[w.heap.size + 1]? = some (.cells zeroRC 34 (0, 0))
  own : Own encI 1 3 wr (w.heap.size + 3) (.slice A k k') (ids k)
  bl : Below w.heap.size w wr
def CfgR (w wr : World) (c : CF) (node k : Nat) : Prop := ∃ A k', CfgSt w wr c node k A k'

/-- Values stored one behind the other. -/
def setAll (x : Nat) : World → Nat → List Value → World
  | w, _, [] => w
  | w, o, v :: vs => setAll x (w.setCell ⟨x, o, none⟩ v) (o + 1) vs
theorem setAll_grown (x : Nat) : ∀ (vs : List Value) (w : World) (o : Nat), w.grownBy (setAll x w o vs) (some x)
  | [], w, _ => World.grownBy.refl w _
  | v :: vs, w, o => by
    have h := setAll_grown x vs (w.setCell ⟨x, o, none⟩ v) (o + 1)
    have e : (w.setCell ⟨x, o, none⟩ v).heap.size = w.heap.size := by simp [World.setCell]
    refine ⟨h.os, h.tape, h.output, by have := h.size; rw [e] at this; exact this, fun i hi hn => (h.block i (by simpa [World.setCell] using hi) hn).trans (Below.heap_setCell _ _ _ _ (fun e => hn (by rw [e])))⟩

theorem rcSet (w : World) (x : Nat) (r : RC) (h : w.heap[x]? = some (.cells zeroRC 34 (0, 0))) : (((((((((((((((w).setCell ⟨x, 0, none⟩ (.int .i64 r.id)).setCell ⟨x, 1, none⟩ (.slice r.pA r.pn r.pc)).setCell ⟨x, 2, none⟩ (.int .i64 r.le)).setCell ⟨x, 3, none⟩ (.int .i64 r.mo)).setCell ⟨x, 4, none⟩ (.int .i64 r.be)).setCell ⟨x, 5, none⟩ (.int .i64 r.ba)).setCell ⟨x, 6, none⟩ (.int .i64 r.blk)).setCell ⟨x, 7, none⟩ (.int .i64 r.bits)).setCell ⟨x, 8, none⟩ (.int .i64 r.mem)).setCell ⟨x, 9, none⟩ (.int .i64 r.stall)).setCell ⟨x, 10, none⟩ (.int .i64 r.wi)).setCell ⟨x, 11, none⟩ (.int .i64 r.ra)).setCell ⟨x, 12, none⟩ (.int .i64 r.pm)).setCell ⟨x, 13, none⟩ (.int .i64 r.seg)).heap[x]? = some (.cells r.cells 34 (0, 0)) ∧ w.grownBy (((((((((((((((w).setCell ⟨x, 0, none⟩ (.int .i64 r.id)).setCell ⟨x, 1, none⟩ (.slice r.pA r.pn r.pc)).setCell ⟨x, 2, none⟩ (.int .i64 r.le)).setCell ⟨x, 3, none⟩ (.int .i64 r.mo)).setCell ⟨x, 4, none⟩ (.int .i64 r.be)).setCell ⟨x, 5, none⟩ (.int .i64 r.ba)).setCell ⟨x, 6, none⟩ (.int .i64 r.blk)).setCell ⟨x, 7, none⟩ (.int .i64 r.bits)).setCell ⟨x, 8, none⟩ (.int .i64 r.mem)).setCell ⟨x, 9, none⟩ (.int .i64 r.stall)).setCell ⟨x, 10, none⟩ (.int .i64 r.wi)).setCell ⟨x, 11, none⟩ (.int .i64 r.ra)).setCell ⟨x, 12, none⟩ (.int .i64 r.pm)).setCell ⟨x, 13, none⟩ (.int .i64 r.seg)) (some x) := by
  have e : ((((((((((((((zeroRC.setIfInBounds 0 (.int .i64 r.id)).setIfInBounds 1 (.slice r.pA r.pn r.pc)).setIfInBounds 2 (.int .i64 r.le)).setIfInBounds 3 (.int .i64 r.mo)).setIfInBounds 4 (.int .i64 r.be)).setIfInBounds 5 (.int .i64 r.ba)).setIfInBounds 6 (.int .i64 r.blk)).setIfInBounds 7 (.int .i64 r.bits)).setIfInBounds 8 (.int .i64 r.mem)).setIfInBounds 9 (.int .i64 r.stall)).setIfInBounds 10 (.int .i64 r.wi)).setIfInBounds 11 (.int .i64 r.ra)).setIfInBounds 12 (.int .i64 r.pm)).setIfInBounds 13 (.int .i64 r.seg)) = r.cells := by simp [zeroRC, RC.cells]
  refine ⟨?_, ?_⟩
  · rw [← e]
    exact (block_setCell (block_setCell (block_setCell (block_setCell (block_setCell (block_setCell (block_setCell (block_setCell (block_setCell (block_setCell (block_setCell (block_setCell (block_setCell (block_setCell h _) _) _) _) _) _) _) _) _) _) _) _) _) _)
  · have := setAll_grown x [.int .i64 r.id, .slice r.pA r.pn r.pc, .int .i64 r.le, .int .i64 r.mo, .int .i64 r.be, .int .i64 r.ba, .int .i64 r.blk, .int .i64 r.bits, .int .i64 r.mem, .int .i64 r.stall, .int .i64 r.wi, .int .i64 r.ra, .int .i64 r.pm, .int .i64 r.seg] w 0
    simpa only [setAll, Nat.zero_add, Nat.reduceAdd] using this

/-- One node's number more. -/
theorem CfgSt.next {w wr w1 : World} {c : CF} {node k : Nat} {A : Option Addr} {k' : Nat} (h : CfgSt w wr c node k A k') {o : Obj} {v1 : Value} (ho : Own encI 1 3 w1 (w.heap.size + 3) v1 (ids k ++ [(k : Int) + 1])) (hg : (wr.alloc o).grownBy w1 (Value.slice A k k').ownBlock) :
    ∃ A1 c1, v1 = .slice A1 (k + 1) c1 ∧ w1.cell? ⟨w.heap.size + 2, 1, none⟩ = some (.slice A k k') ∧ w.heap.size + 2 < w1.heap.size ∧ (∀ o, w1.frozen? ⟨w.heap.size + 2, o, none⟩ = false) ∧ CfgSt w (w1.setCell ⟨w.heap.size + 2, 1, none⟩ (.slice A1 (k + 1) c1)) c node (k + 1) A1 c1 := by
  obtain ⟨A1, c1, rfl⟩ := ho.form
  have hb := block_lt h.rb
  have hob : ∀ j, (Value.slice A k k').ownBlock = some j → w.heap.size + 3 ≤ j := fun j hj => (h.own.lt j hj).1
  have keep : ∀ i, i < w.heap.size + 3 → w1.heap[i]? = wr.heap[i]? := fun i hi => (hg.block i (by simp; omega) (fun e => by have := hob i e.symm; omega)).trans (Below.heap_alloc _ _ _ (by omega))
  have hs : (ids k ++ [(k : Int) + 1]).length = k + 1 := by simp [ids]
  have rb := (keep _ (by omega)).trans h.rb
  rw [hs, ids_snoc] at ho
  refine ⟨A1, c1, by rw [hs], cell_block rb 1 _ rfl, block_lt rb, frozen_block rb, ⟨block_setCell rb _, block_other ((keep _ (by omega)).trans h.rc) _ _ (by simp), ?_, ?_⟩⟩
  · refine ho.kept (row := some (w.heap.size + 2)) ⟨rfl, rfl, rfl, by simp [World.setCell], fun i hi hn => Below.heap_setCell _ _ _ _ (fun e => hn (by rw [e]))⟩ ?_
    cases A1 with
    | none => exact .inl rfl
    | some a =>
      right
      intro e
      have := (ho.lt a.block rfl).1
      simp [Value.ownBlock] at e
      omega
  · refine Below.setCell ?_ (by simp) _
    exact (h.bl.alloc h.bl.size o).grown hg (by have := h.bl.size; simp; omega) (by intro j hj; have := hob j hj; omega)

set_option maxRecDepth 100000 in
set_option maxHeartbeats 4000000 in
theorem config_any (c : CF) (n node : Nat) (w : World) (hn : c.nodes = (n : Int)) (h7 : n ≤ 7) (hd : node ≤ 7) :
    Calls Tryz.prog 20 #[.agg c.cells, .int .i64 node] w
      fun e w' => ∃ A k, e = .returned (.agg (c.r.of node A n k).cells) ∧ Own encI 1 3 w' w.heap.size (.slice A n k) (ids n) ∧ Below w.heap.size w w' := by
  have HX := Lib.hid (World.alloc_at w (.cells c.cells 36))
  have HB := Lib.hid (below_alloc1 w (.cells c.cells 36))
  have HN := Lib.hid hn
  have eCF : c.cells = #[.int .i64 c.nodes, .int .i64 c.disk, .slice c.fA c.fn c.fc, .slice c.sA c.sn c.sc, .int .i64 c.r.id, .slice c.r.pA c.r.pn c.r.pc, .int .i64 c.r.le, .int .i64 c.r.mo, .int .i64 c.r.be, .int .i64 c.r.ba, .int .i64 c.r.blk, .int .i64 c.r.bits, .int .i64 c.r.mem, .int .i64 c.r.stall, .int .i64 c.r.wi, .int .i64 c.r.ra, .int .i64 c.r.pm, .int .i64 c.r.seg] := rfl
  rw [eCF]
  clear hn
  go_enter Tryz.func20, Tryz.ntmps20
  rw [← eCF]
  go_wp2_with (fail)
  have HS : Hid (CfgR w (((w.alloc (.cells c.cells 36)).alloc (.cells zeroRC 34)).alloc (.cells (c.r.of node none 0 0).cells 34)) c node 0) := Lib.hid ⟨none, 0, box_at (by simp only [World.alloc_size]), block_alloc (by have := World.alloc_at (w.alloc (.cells c.cells 36)) (.cells zeroRC 34); rwa [World.alloc_size] at this) _, Own.nil, ((HB.out.alloc (by simp) _).alloc (by simp; omega) _)⟩
  have hz : w.heap.size + 1 + 1 = w.heap.size + 2 := rfl
  rw [hz]
  clear hz
  unfold CF.cells zeroRC RC.of RC.cells at HS
  generalize ((w.alloc (.cells _ 36)).alloc (.cells _ 34)).alloc (.cells _ 34) = W0 at HS ⊢
  rw [HN.out]
  clear HX HB eCF
  go_loopw [6, 17] (fun _ i wr => ∃ k : Nat, i = .int .i64 k ∧ k ≤ n ∧ Hid (CfgR w wr c node k)) (fun _ i _ => (n - intOf i).toNat)
  case atStart => exact ⟨0, rfl, Nat.zero_le _, HS⟩
  case round =>
    obtain ⟨k, rfl, hk, hR⟩ := hrel
    by_cases hlt : k < n
    · obtain ⟨A, k', HS1⟩ := hR.out
      have c1 : wr.cell? ⟨w.heap.size + 2, 1, none⟩ = some (.slice A k k') := cell_block HS1.rb 1 _ rfl
      have l1 := block_lt HS1.rb
      have hid := ids_len k
      have HO := Lib.hid (HS1.own.alloc (.cells #[.int .i64 ((k : Int) + 1)] 3))
      have HW := Lib.hid (row_one (enc := encI) (sz := 1) wr 3 ((k : Int) + 1) (wr.heap.size + 1) (by omega))
      have HE := Lib.hid (show ((ids k).length + 1) * 8 ≤ 140737488355328 by omega)
      have HF := Lib.hid (show (ids k).length + 1 ≤ 140737488355328 by omega)
      have HG := Lib.hid (show w.heap.size + 3 ≤ (wr.alloc (.cells #[.int .i64 ((k : Int) + 1)] 3)).heap.size by simp only [World.alloc_size]; omega)
      have HST := Lib.hid HS1
      clear HS1 hid hR
      go_wp2_with (at_builtin; refine wp_app _ encI 1 rfl _ _ 26 rfl (w.heap.size + 3) 3 8 Tryz.underlying26 info3 (by omega) len_I one_I (.slice A k k') (ids k) rfl HO.out _ _ 1 1 [(k : Int) + 1] rfl rfl HW.out HE.out HF.out HG.out ?_; intro v1 w1 hown1 hg1 hat1 _; obtain ⟨A1, c1', rfl, d1, d2, d3, HN1⟩ := HST.out.next hown1 hg1; clear hown1 hg1 hat1 HO HW HG; replace HN1 := Lib.hid HN1)
      exact ⟨⟨k + 1, by simp, by omega, Lib.hid ⟨A1, c1', HN1.out⟩⟩, by simp [intOf]; omega⟩
    · obtain rfl : k = n := by omega
      obtain ⟨A, k', HS1⟩ := hR.out
      obtain ⟨c0, c1, c2, c3, c4, c5, c6, c7, c8, c9, c10, c11, c12, c13⟩ := rc_at HS1.rb
      obtain ⟨d0, d1, d2, d3, d4, d5, d6, d7, d8, d9, d10, d11, d12, d13⟩ := rc_at (r := ⟨0, none, 0, 0, 0, 0, 0, 0, 0, 0, 0, 0, 0, 0, 0, 0⟩) HS1.rc
      have l1 := block_lt HS1.rb
      have l2 := block_lt HS1.rc
      have f2 := frozen_block HS1.rc
      clear hR
      go_wp2_with (fail)
      obtain ⟨HR, HG⟩ := rcSet wr (w.heap.size + 1) (c.r.of node A k k') HS1.rc
      generalize ((((((((((((((wr).setCell ⟨w.heap.size + 1, 0, none⟩ (.int .i64 (c.r.of node A k k').id)).setCell ⟨w.heap.size + 1, 1, none⟩ (.slice (c.r.of node A k k').pA (c.r.of node A k k').pn (c.r.of node A k k').pc)).setCell ⟨w.heap.size + 1, 2, none⟩ (.int .i64 (c.r.of node A k k').le)).setCell ⟨w.heap.size + 1, 3, none⟩ (.int .i64 (c.r.of node A k k').mo)).setCell ⟨w.heap.size + 1, 4, none⟩ (.int .i64 (c.r.of node A k k').be)).setCell ⟨w.heap.size + 1, 5, none⟩ (.int .i64 (c.r.of node A k k').ba)).setCell ⟨w.heap.size + 1, 6, none⟩ (.int .i64 (c.r.of node A k k').blk)).setCell ⟨w.heap.size + 1, 7, none⟩ (.int .i64 (c.r.of node A k k').bits)).setCell ⟨w.heap.size + 1, 8, none⟩ (.int .i64 (c.r.of node A k k').mem)).setCell ⟨w.heap.size + 1, 9, none⟩ (.int .i64 (c.r.of node A k k').stall)).setCell ⟨w.heap.size + 1, 10, none⟩ (.int .i64 (c.r.of node A k k').wi)).setCell ⟨w.heap.size + 1, 11, none⟩ (.int .i64 (c.r.of node A k k').ra)).setCell ⟨w.heap.size + 1, 12, none⟩ (.int .i64 (c.r.of node A k k').pm)).setCell ⟨w.heap.size + 1, 13, none⟩ (.int .i64 (c.r.of node A k k').seg) = W9 at HR HG ⊢
      refine bodyPost_ret (results_cell_row rfl _ _ (w.heap.size + 1) 34 _ (0, 0) _ rfl HR Tryz.underlying34 rfl (by kernel_rfl)) rfl ?_
      refine ⟨A, k', rfl, (HS1.own.kept HG ?_).weaken (by omega), HS1.bl.grown HG HS1.bl.size (by intro j hj; injection hj with hj; omega)⟩
      cases A with
      | none => exact .inl rfl
      | some a =>
        right
        intro e
        have := (HS1.own.lt a.block rfl).1
        simp [Value.ownBlock] at e
        omega
end Go.Proofs.YtjoaldaldcpfeaaGreatDoor
